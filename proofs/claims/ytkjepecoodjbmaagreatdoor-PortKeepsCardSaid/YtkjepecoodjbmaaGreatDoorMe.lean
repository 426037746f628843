/- Texts of this proof, one behind the other: ReqB ReqA Splt ReqC ReqD ReqE ReqF ReqR ReqPc TusG TusH TusI GatQ GatC GatD GatF GatG RqwL StoP PrtL StoQ TusJ TusK PrtH PrtJ PrtK GatE GatI GatH GatJ ShlA RqwA PrtA PrtB GatK PrtC PrtD PrtI PrtE SplT PrtG. -/
import Derived.Lib.Split
import Derived.Lib.SplitLaws
import Derived.Shelf.Strings.Trim
import Derived.Shelf.Small.Utf8
import Derived.Shelf.Small.Strs
import Derived.Shelf.Small.Wraps
import Derived.Shelf.Strconv.Itoa0
import Derived.Shelf.Strconv.Itoa1
import Derived.Shelf.LaysM
import Derived.Shelf.Strconv.Itoa2
import Derived.Shelf.Strconv.Itoa3
import Derived.Shelf.Strings.Search1
import Derived.Shelf.Strings.Search2
import Derived.Shelf.Strings.Search3
import Derived.Shelf.Strings.Cut
import Derived.Shelf.Strings.Count
import Derived.Shelf.Strings.Shaped
import Derived.Shelf.Strings.Prefix
import Derived.Shelf.Strings.Split
import Derived.Shelf.Strings.Runes
import Derived.Shelf.Strings.IndexAny
import Derived.Shelf.Strings.AsciiSet
import Derived.Shelf.Strings.IndexAnyAll
import Derived.Shelf.Unicode.DecodeSlow
import Derived.Test.YtkjepecoodjbmaaGreatDoorProg
import Derived.Test.YtkjepecoodjbmaaGreatDoorMd
set_option linter.all false
namespace Go.Proofs.YtkjepecoodjbmaaGreatDoor
open Go Go.Sep Go.Ab
set_option maxRecDepth 100000
structure RqI (q:Rq) (i:Nat):Prop where
 lb:q.ln.b.length≤i
 ck: ∀ c,q.ck=some c→ChI c i
 p3:q.pos=3→q.ck≠none
 ow:q.pos=0∨q.pos=1→q.own=true
 fl:q.h.fields.length≤16
 ff: ∀ f ∈ q.h.fields,f.name.length≤i∧f.value.length≤i
 l0:0≤q.left
 l1:q.left≤4000
 l2:q.pos=2→1≤q.left
 on:q.out.length≤4 * i
theorem zwX:RqI rq0 0:=⟨by decide,(fun c h=>by cases h),(fun h=>by cases h),fun _=>rfl,by decide,(fun f h=>by cases h),by decide,by decide,(fun h=>by cases h),by decide⟩
theorem zjz {q:Rq} {i j:Nat} (h:RqI q i) (k:i≤j):RqI q j:=by
 obtain⟨h1,h2,h3,h4,h5,h6,h7,h8,h9,h10⟩:=h
 exact⟨by omega,fun c e=>zeh (h2 c e) k,h3,h4,h5,fun f m=>by have:=h6 f m;omega,h7,h8,h9,by omega⟩
theorem znD {q:Rq} {i:Nat} (h:RqI q i) {o:List Evt} (k:o.length≤4 * i):RqI { q with out:=o} i:=⟨h.lb,h.ck,h.p3,h.ow,h.fl,h.ff,h.l0,h.l1,h.l2,k⟩
theorem zhP (mi:Int) (f:List Fld): -1≤(lenM mi f).1∧(lenM mi f).1≤4000:=by
 have hs: ∀ (l:List Str) (a:Str) (n:Int),0≤n→0≤(sizM a n l).1:=by
  intro l
  induction l with
  |nil=>intro a n h;exact h
  | cons s r ih=>
    intro a n h;unfold sizM
    split
    · exact Int.le_refl _
    · split
      · exact Int.le_refl _
      · exact ih _ _ (vV s).1
 unfold lenM
 repeat' split
 all_goals simp only
 all_goals first
  |decide
  |(have:=hs (valsF f Yu) ((valsF f Yu).getD 0 []) 0 (by decide);omega)
theorem zwE (s:Str):(begM s).2.fields=[]:=by
 unfold begM
 split
 · repeat' split
   all_goals rfl
 · rfl
theorem zri {q:Rq} {i:Nat} (h:RqI q i) (k:Nat) (ho:q.out.length≤k):RqI { (yG q).1 with out:=[],pos:=4} i∧((yG q).2=0→RqI { (yG q).1 with out:=[]} i)∧(yG q).1.out.length≤k+2:=by
 have hl:=zhP q.h.minor q.h.fields;obtain⟨h1,h2,h3,h4,h5,h6,h7,h8,h9,h10⟩:=h;unfold yG rG
 split
 · exact⟨⟨h1,h2,(fun h=>by cases h),(fun h=>by simp at h),h5,h6,h7,h8,(fun h=>by cases h),by simp⟩,(fun h=>by cases h),by simp only;omega⟩
 split
 · rename_i hz
   exact⟨⟨h1,h2,(fun h=>by cases h),(fun h=>by simp at h),h5,h6,h7,h8,(fun h=>by cases h),by simp⟩,fun h=>absurd h hz,by simp only;omega⟩
 split
 · exact⟨⟨h1,h2,(fun h=>by cases h),(fun h=>by simp at h),by simp [hd0],(fun f m=>by cases m),h7,h8,(fun h=>by cases h),by simp⟩,fun _=>⟨h1,h2,(fun h=>by cases h),fun _=>rfl,by simp [hd0],(fun f m=>by cases m),h7,h8,(fun h=>by cases h),by simp⟩,by simp;omega⟩
 split
 · exact⟨⟨h1,h2,(fun h=>by cases h),(fun h=>by simp at h),h5,h6,by simp only;omega,by simp only;omega,(fun h=>by cases h),by simp⟩,fun _=>⟨h1,h2,(fun h=>by cases h),(fun h=>by simp at h),h5,h6,by simp only;omega,by simp only;omega,fun _=>by simp only;omega,by simp⟩,by simp;omega⟩
 · exact⟨⟨h1,(fun c e=>by cases e;exact zeh zwA (jM _)),(fun h=>by cases h),(fun h=>by simp at h),h5,h6,h7,h8,(fun h=>by cases h),by simp⟩,fun _=>⟨h1,(fun c e=>by cases e;exact zeh zwA (jM _)),(fun _ h=>by cases h),(fun h=>by simp at h),h5,h6,h7,h8,(fun h=>by simp at h),by simp⟩,by simp;omega⟩
theorem Rw {q:Rq} {i:Nat} (h:RqI q i):RqI { q with out:=[],pos:=4} i:=⟨h.lb,h.ck,(fun h=>by cases h),(fun h=>by simp at h),h.fl,h.ff,h.l0,h.l1,(fun h=>by cases h),by simp⟩
theorem zrb {q:Rq} {i:Nat} (h:RqI q i) (hp:q.pos=0∨q.pos=1) {s:Str} (hs:s.length≤i) (k:Nat) (ho:q.out.length≤k):RqI { (zU q s).1 with out:=[],pos:=4} i∧((zU q s).2=0→RqI { (zU q s).1 with out:=[]} i)∧(zU q s).1.out.length≤k+2:=by
 have h0:RqI { q with out:=[]} i:=znD h (by simp)
 have hx:=Rw h;have hd:=zri h k ho;have hpl:=zfh s;have hb:=zwE s;have how:=h.ow hp;unfold zU
 split
 · split
   · exact⟨hx,fun _=>h0,by simp only;omega⟩
   split
   · have h1:RqI { q with h:=(begM s).2,pos:=1,out:=[]} i:=⟨h.lb,h.ck,(fun h=>by cases h),fun _=>how,by simp [hb],(by simp [hb]),h.l0,h.l1,(fun h=>by cases h),by simp⟩
     have hd1:=Rw h1
     exact⟨hd1,fun _=>h1,by simp only;omega⟩
   split
   · have h1:RqI { q with h:=(begM s).2,out:=[]} i:=⟨h.lb,h.ck,h.p3,fun _=>how,by simp [hb],(by simp [hb]),h.l0,h.l1,h.l2,by simp⟩
     have hd1:=Rw h1
     exact⟨hd1,fun _=>h1,by simp only;omega⟩
   · exact⟨hx,fun _=>h0,by simp only;omega⟩
 · split
   · exact hd
   split
   · exact⟨hx,fun _=>h0,by simp only;omega⟩
   · rename_i h16
     have h1:RqI { q with h:= { q.h with fields:=q.h.fields++[(uq s).1]},out:=[]} i:=by
      refine⟨h.lb,h.ck,h.p3,h.ow,?_,?_,h.l0,h.l1,h.l2,by simp⟩
      · have:=h.fl;simp;omega
      · intro f hf
        rcases List.mem_append.1 hf with hf|hf
        · exact h.ff f hf
        · simp only [List.mem_singleton] at hf
          subst hf;omega
     have hd1:=Rw h1
     exact⟨hd1,fun _=>h1,by simp only;omega⟩
theorem zlH {q:Rq} {i:Nat} (h:RqI q i) (c:UInt8):RqI (rqF q c) (i+1):=by
 have hm:=zjz h (Nat.le_succ i);have hon:=h.on;unfold rqF
 split
 · rename_i hp
   have h2:=h.l2 hp
   split
   · exact⟨hm.lb,hm.ck,(fun h=>by cases h),fun _=>rfl,by simp [rG,hd0],(fun f m=>by cases m),(Int.le_refl _),(show(0:Int)≤4000 by decide),(fun h=>by cases h),by simp [rG];omega⟩
   · exact⟨hm.lb,hm.ck,hm.p3,hm.ow,hm.fl,hm.ff,by have:=h.l0;simp only;omega,by have:=h.l1;simp only;omega,fun _=>by simp only;omega,by simp;omega⟩
 split
 · rename_i hp
   have hc:ChI (chF (ckOf q) c).1 (i+1):=by
    unfold ckOf
    cases hq:q.ck with
    |none=>exact absurd hq (h.p3 hp)
    |some x=>exact zxf (h.ck x hq) c
   split
   · exact⟨hm.lb,(fun x e=>by cases e;exact hc),(fun h=>by cases h),(fun h=>by simp [vz] at h),hm.fl,hm.ff,hm.l0,hm.l1,(fun h=>by cases h),by simp [vz];omega⟩
   split
   · refine⟨hm.lb,(fun x e=>by cases e;exact hc),(fun h=>by cases h),fun _=>rfl,by simp [rG,hd0],(fun f m=>by cases m),hm.l0,hm.l1,(fun h=>by cases h),?_⟩
     simp only [rG]
     split<;>((try simp);omega)
   · refine⟨hm.lb,(fun x e=>by cases e;exact hc),(fun _ h=>by cases h),hm.ow,hm.fl,hm.ff,hm.l0,hm.l1,hm.l2,?_⟩
     show(if(chF (ckOf q) c).2.1≠[] then q.out++[evB (chF (ckOf q) c).2.1] else q.out).length≤4 * (i+1)
     split<;>((try simp);omega)
 split
 · rename_i hp
   have hlb:(lnF q.ln c).1.b.length≤i+1:=by have:=zrK q.ln c;have:=h.lb;omega
   have hll:(lnF q.ln c).2.1.length≤i+1:=by have:=Yg q.ln c;have:=h.lb;omega
   have h1:RqI { q with ln:=(lnF q.ln c).1} (i+1):=⟨hlb,hm.ck,hm.p3,hm.ow,hm.fl,hm.ff,hm.l0,hm.l1,hm.l2,hm.on⟩
   split
   · exact⟨hlb,hm.ck,(fun h=>by cases h),(fun h=>by simp [vz] at h),hm.fl,hm.ff,hm.l0,hm.l1,(fun h=>by cases h),by simp [vz];omega⟩
   split
   · have hk:=zrb h1 hp hll (4 * i) hon
     generalize zU { q with ln:=(lnF q.ln c).1} (lnF q.ln c).2.1=z at *
     obtain⟨⟨k1,k2,-,-,k5,k6,k7,k8,-,-⟩,kz,ko⟩:=hk
     split
     · exact⟨k1,k2,(fun h=>by cases h),(fun h=>by simp [vz] at h),k5,k6,k7,k8,(fun h=>by cases h),by simp [vz];omega⟩
     · rename_i hz
       obtain⟨k1,k2,k3,k4,k5,k6,k7,k8,k9,k10⟩:=kz (by simpa using hz)
       exact⟨k1,k2,k3,k4,k5,k6,k7,k8,k9,by omega⟩
   · exact h1
 · exact hm
end Go.Proofs.YtkjepecoodjbmaaGreatDoor
namespace Go.Proofs.YtkjepecoodjbmaaGreatDoor
open Go Go.Sep Go.Ab
set_option maxRecDepth 100000
def cfgQ:Cfg:= { sl:=[⟨207,0,.byte,some 5⟩,⟨160,5,.fld,some 108⟩,⟨160,9,.evt,some 34⟩]}
def zC (q:Rq):Prop:=q.out.length≤10000000
def Ro (I:Alg):KU
 |[],[]=>some (.one ⟨I.hid (True),(.ret (.v (.one (.ptr 0 0)))),[.abs (.rq rq0)]⟩)
 |_,_=>none
theorem zjv:zx Tryz.prog 50 (Ro alg):=by
 intro args hp r h;unfold Ro at h;split at h<;>cases h
 simp only [CT.Good,zh];intro _
 refine spH Tryz.func50 (by kernel_rfl) { cfgQ with keep:=some [0]} [RY,RX] (by kernel_rfl) ?_
 intro I X hI hX
 refine orcL ?_;go_invoke;refine orcS (by kernel_rfl) ?_
 simp only [zi,Nat.reduceAdd];subst hI;simp only [nrmA,nrmB,nrlB,reduceCtorEq,HO.abs.injEq,Gh.rq.injEq,Rq.mk.injEq];rfl
def YP:Know Tryz.prog:=⟨50,Ro,zjv⟩
def YO:Know Tryz.prog:=⟨50,fun I=>zu I (Ro I),zf zjv⟩
theorem zjs (ln:Ln) (p:Int) (m tg:Str) (hm:Int) (hf:List Fld) (hl le:Int) (out:List Evt) (k:Int) (ea eb:Str) (ei:Int) (ef:List Fld) (en:Int) (ebs ex ey ez et:Str) (ec:Int) (hneed:zC ⟨ln,p,⟨m,tg,hm,hf,hl⟩,le,none,true,out⟩):Spc Tryz.prog 117 [.v (.one (.ptr 0 0)),.v (.agg [.p (.int .i64 k),.p (.str ea),.p (.str eb),.p (.int .i64 ei),.p (.list .fld ef),.p (.int .i64 en),.p (.list .byte ebs),.p (.str ex),.p (.str ey),.p (.str ez),.p (.nl et),.p (.int .i64 ec)])] [.abs (.rq ⟨ln,p,⟨m,tg,hm,hf,hl⟩,le,none,true,out⟩)] (.ret (.tup [])) [.abs (.rq ⟨ln,p,⟨m,tg,hm,hf,hl⟩,le,none,true,(out++[⟨k,⟨ea,eb,ei,ef,en⟩,ebs,⟨ex,ey,ez,et⟩,ec⟩])⟩)]:=by
 unfold zC at hneed;simp only at hneed
 refine spH Tryz.func117 (by kernel_rfl) { cfgQ with keep:=some [0,1,3]} [] (by kernel_rfl) ?_
 intro I X hI hX
 refine orcL ?_;go_invoke;refine orcS (by kernel_rfl) ?_
 simp only [zi,Nat.reduceAdd];subst hI;simp only [nrmA,nrmB,nrlB,reduceCtorEq,HO.abs.injEq,Gh.rq.injEq,Rq.mk.injEq]
 (repeat' (first|refine ja ?_ ?_|intro _))<;>first|omega|exact jb|exact jc ‹False›|skip
 all_goals first
  |omega
  |rfl
  |with_reducible assumption
  |(simp only [jh,ji];omega)
  |(simp;done)
def YM (I:Alg):KU
 |[.v (.one (.ptr 0 0)),.v (.agg [.p (.int .i64 k),.p (.str ea),.p (.str eb),.p (.int .i64 ei),.p (.list .fld ef),.p (.int .i64 en),.p (.list .byte ebs),.p (.str ex),.p (.str ey),.p (.str ez),.p (.nl et),.p (.int .i64 ec)])],[.abs (.rq ⟨ln,p,⟨m,tg,hm,hf,hl⟩,le,none,true,out⟩)]=>(fun(m tg:Str) (hf:List Fld) (out:List Evt) (ea eb:Str) (ef:List Fld) (ebs ex ey ez et:Str)=>(some (.one ⟨I.hid (zC ⟨ln,p,⟨m,tg,hm,hf,hl⟩,le,none,true,out⟩),(.ret (.tup [])),[.abs (.rq ⟨ln,p,⟨m,tg,hm,hf,hl⟩,le,none,true,(I.hid (out++[⟨k,⟨ea,eb,ei,ef,en⟩,ebs,⟨ex,ey,ez,et⟩,ec⟩]))⟩)]⟩):Option CT)) m tg hf out ea eb ef ebs ex ey ez et
 |_,_=>none
theorem zbU:zx Tryz.prog 117 (YM alg):=by
 intro args hp r h;unfold YM at h
 split at h
 · cases h;exact fun hn=>zjs _ _ _ _ _ _ _ _ _ _ _ _ _ _ _ _ _ _ _ _ _ hn
 · cases h
def zW:Know Tryz.prog:=⟨117,YM,zbU⟩
def zV:Know Tryz.prog:=⟨117,fun I=>zu I (YM I),zf zbU⟩
theorem zjt (ln:Ln) (p:Int) (m tg:Str) (hm:Int) (hf:List Fld) (hl le:Int) (out:List Evt) (k:Int) (ea eb:Str) (ei:Int) (ef:List Fld) (en:Int) (ebs ex ey ez et:Str) (ec:Int) (hneed:zC ⟨ln,p,⟨m,tg,hm,hf,hl⟩,le,none,false,out⟩):Spc Tryz.prog 117 [.v (.one (.ptr 0 0)),.v (.agg [.p (.int .i64 k),.p (.str ea),.p (.str eb),.p (.int .i64 ei),.p (.list .fld ef),.p (.int .i64 en),.p (.list .byte ebs),.p (.str ex),.p (.str ey),.p (.str ez),.p (.nl et),.p (.int .i64 ec)])] [.abs (.rq ⟨ln,p,⟨m,tg,hm,hf,hl⟩,le,none,false,out⟩)] (.ret (.tup [])) [.abs (.rq ⟨ln,p,⟨m,tg,hm,hf,hl⟩,le,none,false,(out++[⟨k,⟨ea,eb,ei,ef,en⟩,ebs,⟨ex,ey,ez,et⟩,ec⟩])⟩)]:=by
 unfold zC at hneed;simp only at hneed
 refine spH Tryz.func117 (by kernel_rfl) { cfgQ with keep:=some [0,1,3]} [zW,zV] (by kernel_rfl) ?_
 intro I X hI hX
 refine orcL ?_;go_invoke;refine orcS (by kernel_rfl) ?_
 simp only [zi,Nat.reduceAdd];subst hI;simp only [nrmA,nrmB,nrlB,reduceCtorEq,HO.abs.injEq,Gh.rq.injEq,Rq.mk.injEq]
 (repeat' (first|refine ja ?_ ?_|intro _))<;>first|omega|exact jb|exact jc ‹False›|skip
 all_goals first
  |omega
  |rfl
  |with_reducible assumption
  |(simp only [jh,ji];omega)
  |(simp;done)
def YN (I:Alg):KU
 |[.v (.one (.ptr 0 0)),.v (.agg [.p (.int .i64 k),.p (.str ea),.p (.str eb),.p (.int .i64 ei),.p (.list .fld ef),.p (.int .i64 en),.p (.list .byte ebs),.p (.str ex),.p (.str ey),.p (.str ez),.p (.nl et),.p (.int .i64 ec)])],[.abs (.rq ⟨ln,p,⟨m,tg,hm,hf,hl⟩,le,none,false,out⟩)]=>(fun(m tg:Str) (hf:List Fld) (out:List Evt) (ea eb:Str) (ef:List Fld) (ebs ex ey ez et:Str)=>(some (.one ⟨I.hid (zC ⟨ln,p,⟨m,tg,hm,hf,hl⟩,le,none,false,out⟩),(.ret (.tup [])),[.abs (.rq ⟨ln,p,⟨m,tg,hm,hf,hl⟩,le,none,false,(I.hid (out++[⟨k,⟨ea,eb,ei,ef,en⟩,ebs,⟨ex,ey,ez,et⟩,ec⟩]))⟩)]⟩):Option CT)) m tg hf out ea eb ef ebs ex ey ez et
 |_,_=>none
theorem zbV:zx Tryz.prog 117 (YN alg):=by
 intro args hp r h;unfold YN at h
 split at h
 · cases h;exact fun hn=>zjt _ _ _ _ _ _ _ _ _ _ _ _ _ _ _ _ _ _ _ _ _ hn
 · cases h
def yc:Know Tryz.prog:=⟨117,YN,zbV⟩
def zZ:Know Tryz.prog:=⟨117,fun I=>zu I (YN I),zf zbV⟩
theorem zjq (ln:Ln) (p:Int) (m tg:Str) (hm:Int) (hf:List Fld) (hl le:Int) (ch:Ch) (out:List Evt) (k:Int) (ea eb:Str) (ei:Int) (ef:List Fld) (en:Int) (ebs ex ey ez et:Str) (ec:Int) (hneed:zC ⟨ln,p,⟨m,tg,hm,hf,hl⟩,le,some ch,true,out⟩):Spc Tryz.prog 117 [.v (.one (.ptr 0 0)),.v (.agg [.p (.int .i64 k),.p (.str ea),.p (.str eb),.p (.int .i64 ei),.p (.list .fld ef),.p (.int .i64 en),.p (.list .byte ebs),.p (.str ex),.p (.str ey),.p (.str ez),.p (.nl et),.p (.int .i64 ec)])] [.abs (.rq ⟨ln,p,⟨m,tg,hm,hf,hl⟩,le,some ch,true,out⟩)] (.ret (.tup [])) [.abs (.rq ⟨ln,p,⟨m,tg,hm,hf,hl⟩,le,some ch,true,(out++[⟨k,⟨ea,eb,ei,ef,en⟩,ebs,⟨ex,ey,ez,et⟩,ec⟩])⟩)]:=by
 unfold zC at hneed;simp only at hneed
 refine spH Tryz.func117 (by kernel_rfl) { cfgQ with keep:=some [0,1,3]} [zW,zV,yc,zZ] (by kernel_rfl) ?_
 intro I X hI hX
 refine orcL ?_;go_invoke;refine orcS (by kernel_rfl) ?_
 simp only [zi,Nat.reduceAdd];subst hI;simp only [nrmA,nrmB,nrlB,reduceCtorEq,HO.abs.injEq,Gh.rq.injEq,Rq.mk.injEq]
 (repeat' (first|refine ja ?_ ?_|intro _))<;>first|omega|exact jb|exact jc ‹False›|skip
 all_goals first
  |omega
  |rfl
  |with_reducible assumption
  |(simp only [jh,ji];omega)
  |(simp;done)
def YK (I:Alg):KU
 |[.v (.one (.ptr 0 0)),.v (.agg [.p (.int .i64 k),.p (.str ea),.p (.str eb),.p (.int .i64 ei),.p (.list .fld ef),.p (.int .i64 en),.p (.list .byte ebs),.p (.str ex),.p (.str ey),.p (.str ez),.p (.nl et),.p (.int .i64 ec)])],[.abs (.rq ⟨ln,p,⟨m,tg,hm,hf,hl⟩,le,some ch,true,out⟩)]=>(fun(m tg:Str) (hf:List Fld) (out:List Evt) (ea eb:Str) (ef:List Fld) (ebs ex ey ez et:Str)=>(some (.one ⟨I.hid (zC ⟨ln,p,⟨m,tg,hm,hf,hl⟩,le,some ch,true,out⟩),(.ret (.tup [])),[.abs (.rq ⟨ln,p,⟨m,tg,hm,hf,hl⟩,le,some ch,true,(I.hid (out++[⟨k,⟨ea,eb,ei,ef,en⟩,ebs,⟨ex,ey,ez,et⟩,ec⟩]))⟩)]⟩):Option CT)) m tg hf out ea eb ef ebs ex ey ez et
 |_,_=>none
theorem zbS:zx Tryz.prog 117 (YK alg):=by
 intro args hp r h;unfold YK at h
 split at h
 · cases h;exact fun hn=>zjq _ _ _ _ _ _ _ _ _ _ _ _ _ _ _ _ _ _ _ _ _ _ hn
 · cases h
def yx:Know Tryz.prog:=⟨117,YK,zbS⟩
def yw:Know Tryz.prog:=⟨117,fun I=>zu I (YK I),zf zbS⟩
theorem zjr (ln:Ln) (p:Int) (m tg:Str) (hm:Int) (hf:List Fld) (hl le:Int) (ch:Ch) (out:List Evt) (k:Int) (ea eb:Str) (ei:Int) (ef:List Fld) (en:Int) (ebs ex ey ez et:Str) (ec:Int) (hneed:zC ⟨ln,p,⟨m,tg,hm,hf,hl⟩,le,some ch,false,out⟩):Spc Tryz.prog 117 [.v (.one (.ptr 0 0)),.v (.agg [.p (.int .i64 k),.p (.str ea),.p (.str eb),.p (.int .i64 ei),.p (.list .fld ef),.p (.int .i64 en),.p (.list .byte ebs),.p (.str ex),.p (.str ey),.p (.str ez),.p (.nl et),.p (.int .i64 ec)])] [.abs (.rq ⟨ln,p,⟨m,tg,hm,hf,hl⟩,le,some ch,false,out⟩)] (.ret (.tup [])) [.abs (.rq ⟨ln,p,⟨m,tg,hm,hf,hl⟩,le,some ch,false,(out++[⟨k,⟨ea,eb,ei,ef,en⟩,ebs,⟨ex,ey,ez,et⟩,ec⟩])⟩)]:=by
 unfold zC at hneed;simp only at hneed
 refine spH Tryz.func117 (by kernel_rfl) { cfgQ with keep:=some [0,1,3]} [zW,zV,yc,zZ,yx,yw] (by kernel_rfl) ?_
 intro I X hI hX
 refine orcL ?_;go_invoke;refine orcS (by kernel_rfl) ?_
 simp only [zi,Nat.reduceAdd];subst hI;simp only [nrmA,nrmB,nrlB,reduceCtorEq,HO.abs.injEq,Gh.rq.injEq,Rq.mk.injEq]
 (repeat' (first|refine ja ?_ ?_|intro _))<;>first|omega|exact jb|exact jc ‹False›|skip
 all_goals first
  |omega
  |rfl
  |with_reducible assumption
  |(simp only [jh,ji];omega)
  |(simp;done)
def YL (I:Alg):KU
 |[.v (.one (.ptr 0 0)),.v (.agg [.p (.int .i64 k),.p (.str ea),.p (.str eb),.p (.int .i64 ei),.p (.list .fld ef),.p (.int .i64 en),.p (.list .byte ebs),.p (.str ex),.p (.str ey),.p (.str ez),.p (.nl et),.p (.int .i64 ec)])],[.abs (.rq ⟨ln,p,⟨m,tg,hm,hf,hl⟩,le,some ch,false,out⟩)]=>(fun(m tg:Str) (hf:List Fld) (out:List Evt) (ea eb:Str) (ef:List Fld) (ebs ex ey ez et:Str)=>(some (.one ⟨I.hid (zC ⟨ln,p,⟨m,tg,hm,hf,hl⟩,le,some ch,false,out⟩),(.ret (.tup [])),[.abs (.rq ⟨ln,p,⟨m,tg,hm,hf,hl⟩,le,some ch,false,(I.hid (out++[⟨k,⟨ea,eb,ei,ef,en⟩,ebs,⟨ex,ey,ez,et⟩,ec⟩]))⟩)]⟩):Option CT)) m tg hf out ea eb ef ebs ex ey ez et
 |_,_=>none
theorem zbT:zx Tryz.prog 117 (YL alg):=by
 intro args hp r h;unfold YL at h
 split at h
 · cases h;exact fun hn=>zjr _ _ _ _ _ _ _ _ _ _ _ _ _ _ _ _ _ _ _ _ _ _ hn
 · cases h
def yE:Know Tryz.prog:=⟨117,YL,zbT⟩
def yD:Know Tryz.prog:=⟨117,fun I=>zu I (YL I),zf zbT⟩
def Rn (I:Alg):KU
 |[.v (.one (.ptr 0 0)),.v (.agg [.p (.int .i64 k),.p (.str ea),.p (.str eb),.p (.int .i64 ei),.p (.list .fld ef),.p (.int .i64 en),.p (.list .byte ebs),.p (.str ex),.p (.str ey),.p (.str ez),.p (.nl et),.p (.int .i64 ec)])],[.abs (.rq q)]=>(fun(ea eb:Str) (ef:List Fld) (ebs ex ey ez et:Str)=>(some (.one ⟨I.hid (zC q),(.ret (.tup [])),[.abs (.rq (I.hid (zwW q ⟨k,⟨ea,eb,ei,ef,en⟩,ebs,⟨ex,ey,ez,et⟩,ec⟩)))]⟩):Option CT)) ea eb ef ebs ex ey ez et
 |_,_=>none
theorem zju:zx Tryz.prog 117 (Rn alg):=by
 intro args hp r h;unfold Rn at h;split at h<;>cases h
 rename_i k ea eb ei ef en ebs ex ey ez et ec q
 revert ef;intro(ef:List Fld)
 simp only [CT.Good,zh];intro hneed;obtain⟨ln,p,⟨m,tg,hm,hf,hl⟩,le,ck,own,out⟩:=q
 cases ck with
 | none=>cases own with
   |true=>exact zjs ln p m tg hm hf hl le out k ea eb ei ef en ebs ex ey ez et ec hneed
   |false=>exact zjt ln p m tg hm hf hl le out k ea eb ei ef en ebs ex ey ez et ec hneed
 | some ch=>cases own with
   |true=>exact zjq ln p m tg hm hf hl le ch out k ea eb ei ef en ebs ex ey ez et ec hneed
   |false=>exact zjr ln p m tg hm hf hl le ch out k ea eb ei ef en ebs ex ey ez et ec hneed
def x9:Know Tryz.prog:=⟨117,Rn,zju⟩
def xZ:Know Tryz.prog:=⟨117,fun I=>zu I (Rn I),zf zju⟩
theorem znK (ln:Ln) (p:Int) (m tg:Str) (hm:Int) (hf:List Fld) (hl le:Int) (out:List Evt) (c:Int) (hneed:zC ⟨ln,p,⟨m,tg,hm,hf,hl⟩,le,none,true,out⟩):Spc Tryz.prog 120 [.v (.one (.ptr 0 0)),.v (.one (.p (.int .i64 c)))] [.abs (.rq ⟨ln,p,⟨m,tg,hm,hf,hl⟩,le,none,true,out⟩)] (.ret (.tup [])) [.abs (.rq ((vz ⟨ln,p,⟨m,tg,hm,hf,hl⟩,le,none,true,out⟩ c)))]:=by
 unfold zC at hneed;simp only at hneed
 refine spH Tryz.func120 (by kernel_rfl) { cfgQ with keep:=some [0,1]} [zW,zV,yc,zZ,yx,yw,yE,yD,x9,xZ] (by kernel_rfl) ?_
 intro I X hI hX
 refine orcL ?_;go_invoke;refine orcS (by kernel_rfl) ?_
 simp only [zi,Nat.reduceAdd];subst hI;simp only [nrmA,nrmB,nrlB,reduceCtorEq,HO.abs.injEq,Gh.rq.injEq,Rq.mk.injEq]
 (repeat' (first|refine ja ?_ ?_|intro _))<;>first|omega|exact jb|exact jc ‹False›|skip
 all_goals first
  |omega
  |rfl
  |with_reducible assumption
  |(simp only [jh,ji];omega)
  |(unfold zC;simp only;omega)
  |(simp;done)
theorem znL (ln:Ln) (p:Int) (m tg:Str) (hm:Int) (hf:List Fld) (hl le:Int) (out:List Evt) (c:Int) (hneed:zC ⟨ln,p,⟨m,tg,hm,hf,hl⟩,le,none,false,out⟩):Spc Tryz.prog 120 [.v (.one (.ptr 0 0)),.v (.one (.p (.int .i64 c)))] [.abs (.rq ⟨ln,p,⟨m,tg,hm,hf,hl⟩,le,none,false,out⟩)] (.ret (.tup [])) [.abs (.rq ((vz ⟨ln,p,⟨m,tg,hm,hf,hl⟩,le,none,false,out⟩ c)))]:=by
 unfold zC at hneed;simp only at hneed
 refine spH Tryz.func120 (by kernel_rfl) { cfgQ with keep:=some [0,1]} [zW,zV,yc,zZ,yx,yw,yE,yD,x9,xZ] (by kernel_rfl) ?_
 intro I X hI hX
 refine orcL ?_;go_invoke;refine orcS (by kernel_rfl) ?_
 simp only [zi,Nat.reduceAdd];subst hI;simp only [nrmA,nrmB,nrlB,reduceCtorEq,HO.abs.injEq,Gh.rq.injEq,Rq.mk.injEq]
 (repeat' (first|refine ja ?_ ?_|intro _))<;>first|omega|exact jb|exact jc ‹False›|skip
 all_goals first
  |omega
  |rfl
  |with_reducible assumption
  |(simp only [jh,ji];omega)
  |(unfold zC;simp only;omega)
  |(simp;done)
theorem znI (ln:Ln) (p:Int) (m tg:Str) (hm:Int) (hf:List Fld) (hl le:Int) (ch:Ch) (out:List Evt) (c:Int) (hneed:zC ⟨ln,p,⟨m,tg,hm,hf,hl⟩,le,some ch,true,out⟩):Spc Tryz.prog 120 [.v (.one (.ptr 0 0)),.v (.one (.p (.int .i64 c)))] [.abs (.rq ⟨ln,p,⟨m,tg,hm,hf,hl⟩,le,some ch,true,out⟩)] (.ret (.tup [])) [.abs (.rq ((vz ⟨ln,p,⟨m,tg,hm,hf,hl⟩,le,some ch,true,out⟩ c)))]:=by
 unfold zC at hneed;simp only at hneed
 refine spH Tryz.func120 (by kernel_rfl) { cfgQ with keep:=some [0,1]} [zW,zV,yc,zZ,yx,yw,yE,yD,x9,xZ] (by kernel_rfl) ?_
 intro I X hI hX
 refine orcL ?_;go_invoke;refine orcS (by kernel_rfl) ?_
 simp only [zi,Nat.reduceAdd];subst hI;simp only [nrmA,nrmB,nrlB,reduceCtorEq,HO.abs.injEq,Gh.rq.injEq,Rq.mk.injEq]
 (repeat' (first|refine ja ?_ ?_|intro _))<;>first|omega|exact jb|exact jc ‹False›|skip
 all_goals first
  |omega
  |rfl
  |with_reducible assumption
  |(simp only [jh,ji];omega)
  |(unfold zC;simp only;omega)
  |(simp;done)
theorem znJ (ln:Ln) (p:Int) (m tg:Str) (hm:Int) (hf:List Fld) (hl le:Int) (ch:Ch) (out:List Evt) (c:Int) (hneed:zC ⟨ln,p,⟨m,tg,hm,hf,hl⟩,le,some ch,false,out⟩):Spc Tryz.prog 120 [.v (.one (.ptr 0 0)),.v (.one (.p (.int .i64 c)))] [.abs (.rq ⟨ln,p,⟨m,tg,hm,hf,hl⟩,le,some ch,false,out⟩)] (.ret (.tup [])) [.abs (.rq ((vz ⟨ln,p,⟨m,tg,hm,hf,hl⟩,le,some ch,false,out⟩ c)))]:=by
 unfold zC at hneed;simp only at hneed
 refine spH Tryz.func120 (by kernel_rfl) { cfgQ with keep:=some [0,1]} [zW,zV,yc,zZ,yx,yw,yE,yD,x9,xZ] (by kernel_rfl) ?_
 intro I X hI hX
 refine orcL ?_;go_invoke;refine orcS (by kernel_rfl) ?_
 simp only [zi,Nat.reduceAdd];subst hI;simp only [nrmA,nrmB,nrlB,reduceCtorEq,HO.abs.injEq,Gh.rq.injEq,Rq.mk.injEq]
 (repeat' (first|refine ja ?_ ?_|intro _))<;>first|omega|exact jb|exact jc ‹False›|skip
 all_goals first
  |omega
  |rfl
  |with_reducible assumption
  |(simp only [jh,ji];omega)
  |(unfold zC;simp only;omega)
  |(simp;done)
def WE (I:Alg):KU
 |[.v (.one (.ptr 0 0)),.v (.one (.p (.int .i64 c)))],[.abs (.rq q)]=>some (.one ⟨I.hid (zC q),(.ret (.tup [])),[.abs (.rq (I.hid (vz q c)))]⟩)
 |_,_=>none
theorem ze6:zx Tryz.prog 120 (WE alg):=by
 intro args hp r h;unfold WE at h;split at h<;>cases h
 rename_i c q;simp only [CT.Good,zh];intro hneed;obtain⟨ln,p,⟨m,tg,hm,hf,hl⟩,le,ck,own,out⟩:=q
 cases ck with
 | none=>cases own with
   |true=>exact znK ln p m tg hm hf hl le out c hneed
   |false=>exact znL ln p m tg hm hf hl le out c hneed
 | some ch=>cases own with
   |true=>exact znI ln p m tg hm hf hl le ch out c hneed
   |false=>exact znJ ln p m tg hm hf hl le ch out c hneed
def WC:Know Tryz.prog:=⟨120,WE,ze6⟩
def WB:Know Tryz.prog:=⟨120,fun I=>zu I (WE I),zf ze6⟩
theorem zrf (ln:Ln) (p:Int) (m tg:Str) (hm:Int) (hf:List Fld) (hl le:Int) (out:List Evt) (hneed:zC ⟨ln,p,⟨m,tg,hm,hf,hl⟩,le,none,true,out⟩):Spc Tryz.prog 118 [.v (.one (.ptr 0 0))] [.abs (.rq ⟨ln,p,⟨m,tg,hm,hf,hl⟩,le,none,true,out⟩)] (.ret (.tup [])) [.abs (.rq ((rG ⟨ln,p,⟨m,tg,hm,hf,hl⟩,le,none,true,out⟩)))]:=by
 unfold zC at hneed;simp only at hneed
 refine spH Tryz.func118 (by kernel_rfl) { cfgQ with keep:=some [0]} [zW,zV,yc,zZ,yx,yw,yE,yD,x9,xZ] (by kernel_rfl) ?_
 intro I X hI hX
 refine orcL ?_;go_invoke;refine orcS (by kernel_rfl) ?_
 simp only [zi,Nat.reduceAdd];subst hI;simp only [nrmA,nrmB,nrlB,reduceCtorEq,HO.abs.injEq,Gh.rq.injEq,Rq.mk.injEq]
 (repeat' (first|refine ja ?_ ?_|intro _))<;>first|omega|exact jb|exact jc ‹False›|skip
 all_goals first
  |omega
  |rfl
  |with_reducible assumption
  |(simp only [jh,ji];omega)
  |(unfold zC;simp only;omega)
  |(simp;done)
theorem zrg (ln:Ln) (p:Int) (m tg:Str) (hm:Int) (hf:List Fld) (hl le:Int) (out:List Evt) (hneed:zC ⟨ln,p,⟨m,tg,hm,hf,hl⟩,le,none,false,out⟩):Spc Tryz.prog 118 [.v (.one (.ptr 0 0))] [.abs (.rq ⟨ln,p,⟨m,tg,hm,hf,hl⟩,le,none,false,out⟩)] (.ret (.tup [])) [.abs (.rq ((rG ⟨ln,p,⟨m,tg,hm,hf,hl⟩,le,none,false,out⟩)))]:=by
 unfold zC at hneed;simp only at hneed
 refine spH Tryz.func118 (by kernel_rfl) { cfgQ with keep:=some [0]} [zW,zV,yc,zZ,yx,yw,yE,yD,x9,xZ] (by kernel_rfl) ?_
 intro I X hI hX
 refine orcL ?_;go_invoke;refine orcS (by kernel_rfl) ?_
 simp only [zi,Nat.reduceAdd];subst hI;simp only [nrmA,nrmB,nrlB,reduceCtorEq,HO.abs.injEq,Gh.rq.injEq,Rq.mk.injEq]
 (repeat' (first|refine ja ?_ ?_|intro _))<;>first|omega|exact jb|exact jc ‹False›|skip
 all_goals first
  |omega
  |rfl
  |with_reducible assumption
  |(simp only [jh,ji];omega)
  |(unfold zC;simp only;omega)
  |(simp;done)
theorem zrd (ln:Ln) (p:Int) (m tg:Str) (hm:Int) (hf:List Fld) (hl le:Int) (ch:Ch) (out:List Evt) (hneed:zC ⟨ln,p,⟨m,tg,hm,hf,hl⟩,le,some ch,true,out⟩):Spc Tryz.prog 118 [.v (.one (.ptr 0 0))] [.abs (.rq ⟨ln,p,⟨m,tg,hm,hf,hl⟩,le,some ch,true,out⟩)] (.ret (.tup [])) [.abs (.rq ((rG ⟨ln,p,⟨m,tg,hm,hf,hl⟩,le,some ch,true,out⟩)))]:=by
 unfold zC at hneed;simp only at hneed
 refine spH Tryz.func118 (by kernel_rfl) { cfgQ with keep:=some [0]} [zW,zV,yc,zZ,yx,yw,yE,yD,x9,xZ] (by kernel_rfl) ?_
 intro I X hI hX
 refine orcL ?_;go_invoke;refine orcS (by kernel_rfl) ?_
 simp only [zi,Nat.reduceAdd];subst hI;simp only [nrmA,nrmB,nrlB,reduceCtorEq,HO.abs.injEq,Gh.rq.injEq,Rq.mk.injEq]
 (repeat' (first|refine ja ?_ ?_|intro _))<;>first|omega|exact jb|exact jc ‹False›|skip
 all_goals first
  |omega
  |rfl
  |with_reducible assumption
  |(simp only [jh,ji];omega)
  |(unfold zC;simp only;omega)
  |(simp;done)
theorem zre (ln:Ln) (p:Int) (m tg:Str) (hm:Int) (hf:List Fld) (hl le:Int) (ch:Ch) (out:List Evt) (hneed:zC ⟨ln,p,⟨m,tg,hm,hf,hl⟩,le,some ch,false,out⟩):Spc Tryz.prog 118 [.v (.one (.ptr 0 0))] [.abs (.rq ⟨ln,p,⟨m,tg,hm,hf,hl⟩,le,some ch,false,out⟩)] (.ret (.tup [])) [.abs (.rq ((rG ⟨ln,p,⟨m,tg,hm,hf,hl⟩,le,some ch,false,out⟩)))]:=by
 unfold zC at hneed;simp only at hneed
 refine spH Tryz.func118 (by kernel_rfl) { cfgQ with keep:=some [0]} [zW,zV,yc,zZ,yx,yw,yE,yD,x9,xZ] (by kernel_rfl) ?_
 intro I X hI hX
 refine orcL ?_;go_invoke;refine orcS (by kernel_rfl) ?_
 simp only [zi,Nat.reduceAdd];subst hI;simp only [nrmA,nrmB,nrlB,reduceCtorEq,HO.abs.injEq,Gh.rq.injEq,Rq.mk.injEq]
 (repeat' (first|refine ja ?_ ?_|intro _))<;>first|omega|exact jb|exact jc ‹False›|skip
 all_goals first
  |omega
  |rfl
  |with_reducible assumption
  |(simp only [jh,ji];omega)
  |(unfold zC;simp only;omega)
  |(simp;done)
def Rx (I:Alg):KU
 |[.v (.one (.ptr 0 0))],[.abs (.rq q)]=>some (.one ⟨I.hid (zC q),(.ret (.tup [])),[.abs (.rq (I.hid (rG q)))]⟩)
 |_,_=>none
theorem zjA:zx Tryz.prog 118 (Rx alg):=by
 intro args hp r h;unfold Rx at h;split at h<;>cases h
 rename_i q;simp only [CT.Good,zh];intro hneed;obtain⟨ln,p,⟨m,tg,hm,hf,hl⟩,le,ck,own,out⟩:=q
 cases ck with
 | none=>cases own with
   |true=>exact zrf ln p m tg hm hf hl le out hneed
   |false=>exact zrg ln p m tg hm hf hl le out hneed
 | some ch=>cases own with
   |true=>exact zrd ln p m tg hm hf hl le ch out hneed
   |false=>exact zre ln p m tg hm hf hl le ch out hneed
def YR:Know Tryz.prog:=⟨118,Rx,zjA⟩
def YQ:Know Tryz.prog:=⟨118,fun I=>zu I (Rx I),zf zjA⟩
theorem znS (ln:Ln) (p:Int) (m tg:Str) (hm:Int) (hf:List Fld) (hl le:Int) (out:List Evt):Spc Tryz.prog 44 [.v (.one (.ptr 0 0))] [.abs (.rq ⟨ln,p,⟨m,tg,hm,hf,hl⟩,le,none,true,out⟩)] (.ret (.v (.one (.p (.bool ((decide (Rq.pos ⟨ln,p,⟨m,tg,hm,hf,hl⟩,le,none,true,out⟩=4)))))))) [.abs (.rq ⟨ln,p,⟨m,tg,hm,hf,hl⟩,le,none,true,out⟩)]:=by
 refine spH Tryz.func44 (by kernel_rfl) { cfgQ with keep:=some [0,2]} [] (by kernel_rfl) ?_
 intro I X hI hX
 refine orcL ?_;go_invoke;refine orcS (by kernel_rfl) ?_
 simp only [zi,Nat.reduceAdd];subst hI;simp only [nrmA,nrmB,nrlB,reduceCtorEq,HO.abs.injEq,Gh.rq.injEq,Rq.mk.injEq]
 (repeat' (first|refine ja ?_ ?_|intro _))<;>first|omega|exact jb|exact jc ‹False›|skip
 all_goals first
  |omega
  |rfl
  |with_reducible assumption
  |(simp only [jh,ji];omega)
  |(simp;done)
theorem znT (ln:Ln) (p:Int) (m tg:Str) (hm:Int) (hf:List Fld) (hl le:Int) (out:List Evt):Spc Tryz.prog 44 [.v (.one (.ptr 0 0))] [.abs (.rq ⟨ln,p,⟨m,tg,hm,hf,hl⟩,le,none,false,out⟩)] (.ret (.v (.one (.p (.bool ((decide (Rq.pos ⟨ln,p,⟨m,tg,hm,hf,hl⟩,le,none,false,out⟩=4)))))))) [.abs (.rq ⟨ln,p,⟨m,tg,hm,hf,hl⟩,le,none,false,out⟩)]:=by
 refine spH Tryz.func44 (by kernel_rfl) { cfgQ with keep:=some [0,2]} [] (by kernel_rfl) ?_
 intro I X hI hX
 refine orcL ?_;go_invoke;refine orcS (by kernel_rfl) ?_
 simp only [zi,Nat.reduceAdd];subst hI;simp only [nrmA,nrmB,nrlB,reduceCtorEq,HO.abs.injEq,Gh.rq.injEq,Rq.mk.injEq]
 (repeat' (first|refine ja ?_ ?_|intro _))<;>first|omega|exact jb|exact jc ‹False›|skip
 all_goals first
  |omega
  |rfl
  |with_reducible assumption
  |(simp only [jh,ji];omega)
  |(simp;done)
theorem znQ (ln:Ln) (p:Int) (m tg:Str) (hm:Int) (hf:List Fld) (hl le:Int) (ch:Ch) (out:List Evt):Spc Tryz.prog 44 [.v (.one (.ptr 0 0))] [.abs (.rq ⟨ln,p,⟨m,tg,hm,hf,hl⟩,le,some ch,true,out⟩)] (.ret (.v (.one (.p (.bool ((decide (Rq.pos ⟨ln,p,⟨m,tg,hm,hf,hl⟩,le,some ch,true,out⟩=4)))))))) [.abs (.rq ⟨ln,p,⟨m,tg,hm,hf,hl⟩,le,some ch,true,out⟩)]:=by
 refine spH Tryz.func44 (by kernel_rfl) { cfgQ with keep:=some [0,2]} [] (by kernel_rfl) ?_
 intro I X hI hX
 refine orcL ?_;go_invoke;refine orcS (by kernel_rfl) ?_
 simp only [zi,Nat.reduceAdd];subst hI;simp only [nrmA,nrmB,nrlB,reduceCtorEq,HO.abs.injEq,Gh.rq.injEq,Rq.mk.injEq]
 (repeat' (first|refine ja ?_ ?_|intro _))<;>first|omega|exact jb|exact jc ‹False›|skip
 all_goals first
  |omega
  |rfl
  |with_reducible assumption
  |(simp only [jh,ji];omega)
  |(simp;done)
theorem znR (ln:Ln) (p:Int) (m tg:Str) (hm:Int) (hf:List Fld) (hl le:Int) (ch:Ch) (out:List Evt):Spc Tryz.prog 44 [.v (.one (.ptr 0 0))] [.abs (.rq ⟨ln,p,⟨m,tg,hm,hf,hl⟩,le,some ch,false,out⟩)] (.ret (.v (.one (.p (.bool ((decide (Rq.pos ⟨ln,p,⟨m,tg,hm,hf,hl⟩,le,some ch,false,out⟩=4)))))))) [.abs (.rq ⟨ln,p,⟨m,tg,hm,hf,hl⟩,le,some ch,false,out⟩)]:=by
 refine spH Tryz.func44 (by kernel_rfl) { cfgQ with keep:=some [0,2]} [] (by kernel_rfl) ?_
 intro I X hI hX
 refine orcL ?_;go_invoke;refine orcS (by kernel_rfl) ?_
 simp only [zi,Nat.reduceAdd];subst hI;simp only [nrmA,nrmB,nrlB,reduceCtorEq,HO.abs.injEq,Gh.rq.injEq,Rq.mk.injEq]
 (repeat' (first|refine ja ?_ ?_|intro _))<;>first|omega|exact jb|exact jc ‹False›|skip
 all_goals first
  |omega
  |rfl
  |with_reducible assumption
  |(simp only [jh,ji];omega)
  |(simp;done)
def WH (I:Alg):KU
 |[.v (.one (.ptr 0 0))],[.abs (.rq q)]=>some (.one ⟨I.hid (True),(.ret (.v (.one (.p (.bool (I.hid (decide (Rq.pos q=4)))))))),[.abs (.rq (I.hid (q)))]⟩)
 |_,_=>none
theorem zfa:zx Tryz.prog 44 (WH alg):=by
 intro args hp r h;unfold WH at h;split at h<;>cases h
 rename_i q;simp only [CT.Good,zh];intro _;obtain⟨ln,p,⟨m,tg,hm,hf,hl⟩,le,ck,own,out⟩:=q
 cases ck with
 | none=>cases own with
   |true=>exact znS ln p m tg hm hf hl le out
   |false=>exact znT ln p m tg hm hf hl le out
 | some ch=>cases own with
   |true=>exact znQ ln p m tg hm hf hl le ch out
   |false=>exact znR ln p m tg hm hf hl le ch out
def zam:Know Tryz.prog:=⟨44,WH,zfa⟩
def zal:Know Tryz.prog:=⟨44,fun I=>zu I (WH I),zf zfa⟩
end Go.Proofs.YtkjepecoodjbmaaGreatDoor
namespace Go.Ab
open Go Go.Sep
variable [Facts]
theorem Spc.zvT {Pr:Program} {f:Nat} {args:List D} {hp:List HO} {u:U} {E:Nat} {l:List u.den} (hl:l.length≤maxLen) (hf: ∃ fn,Pr.funcs[f]? =some fn∧(fn.name == "runtime.NumGoroutine")=false∧fn.body.isNone=false)
  (h: ∀ (S:Frz) (bs:List Value) (w:World) (vs:List Value),Facts.p w→MDs S bs args vs→∃ cs:Array Value,cs.size=l.length * u.size∧(∀ (i:Nat) (x:u.den) (j:Nat) (p:P) (v:Value),l[i]? =some x→(enc alg u x)[j]? =some p→cs.toList[i * u.size+j]? =some v→MP S p v)∧Calls Pr f vs.toArray w fun e w'=>e=.returned (.slice (some ⟨w.heap.size,0,none⟩) l.length l.length)∧w'=w.alloc (.cells cs E)):Spc Pr f args hp (.ret (.v (.one (.row hp.length)))) (hp++[.row u E l]):=by
 refine⟨hf,fun S K fr w vs hH hM hA=> ?_⟩;obtain⟨cs,hcs,hx,hc⟩:=h S _ w vs (At.frz hA).facts hM;refine hc.mono fun e w' he=> ?_;obtain⟨rfl,rfl⟩:=he
 have he:Ext (K.map CO.base) ((K++[CO.row E u.size (some ⟨w.heap.size,0,none⟩) l.length l.length cs.toList]).map CO.base):=by rw [List.map_append];exact Ext.append _ _
 refine⟨S,K++[CO.row E u.size (some ⟨w.heap.size,0,none⟩) l.length l.length cs.toList],Frz.le.refl S,he,(hH.mono (Frz.le.refl S) he).push (.row (by rw [Array.length_toList];exact hcs) hx),?_,?_⟩
 · have h1:=hA.QC E u.size l.length cs (0,0) hcs hl (uG _)
   exact At.more h1
 · refine⟨?_,some ⟨w.heap.size,0,none⟩,l.length,l.length,rfl⟩
   rw [hH.1];exact y9 _ _
end Go.Ab
namespace Go.Proofs.YtkjepecoodjbmaaGreatDoor
open Go Go.Sep Go.Ab
set_option maxRecDepth 100000
theorem index_one: ∀ (s:Str) (c:UInt8),c ∉ s→Lib.index s [c]= -1
 |[],c,_=>rfl
 | b::l,c,h=>by
   have h1: ¬ b=c:=fun e=>h (by rw [e];exact List.mem_cons_self)
   have h2:c ∉ l:=fun e=>h (List.mem_cons_of_mem _ e)
   have h0:(c == b)=false:=by simpa using fun e:c=b=>h1 e.symm
   have h3:([c]:Str).isPrefixOf (b::l)=false:=by simp [List.isPrefixOf,h0]
   unfold Lib.index;rw [h3,index_one l c h2];rfl
theorem zkk: ∀ (p r:Str) (c:UInt8),c ∉ p→Lib.index (p++c::r) [c]=p.length
 |[],r,c,_=>by simp [Lib.index,List.isPrefixOf]
 | b::l,r,c,h=>by
   have h1: ¬ b=c:=fun e=>h (by rw [e];exact List.mem_cons_self)
   have h2:c ∉ l:=fun e=>h (List.mem_cons_of_mem _ e)
   have h0:(c == b)=false:=by simpa using fun e:c=b=>h1 e.symm
   have h3:([c]:Str).isPrefixOf (b::(l++c::r))=false:=by simp [List.isPrefixOf,h0]
   rw [List.cons_append];unfold Lib.index;rw [h3,zkk l r c h2]
   have: ¬ ((l.length:Int) == -1)=true:=fun e=>by have:=beq_iff_eq.1 e;omega
   rw [if_neg (by simp),if_neg this]
   simp
theorem QZ: ∀ (s:Str),(32:UInt8) ∉ s→yF s=[s]
 |[],_=>rfl
 | b::l,h=>by
   have h1: ¬ b=32:=fun e=>h (by rw [e];exact List.mem_cons_self)
   have h2:(32:UInt8) ∉ l:=fun e=>h (List.mem_cons_of_mem _ e);rw [yF,if_neg h1,QZ l h2]
theorem zbL: ∀ (p r:Str),(32:UInt8) ∉ p→yF (p++32::r)=p::yF r
 |[],r,_=>by simp [yF]
 | b::l,r,h=>by
   have h1: ¬ b=32:=fun e=>h (by rw [e];exact List.mem_cons_self)
   have h2:(32:UInt8) ∉ l:=fun e=>h (List.mem_cons_of_mem _ e);rw [List.cons_append,yF,if_neg h1,zbL l r h2]
theorem ztt: ∀ (s:Str) (c:UInt8),c ∈ s→∃ p r,s=p++c::r∧c ∉ p
 | b ::l,c,h=>by
   by_cases e:b=c
   · exact⟨[],l,by rw [e];rfl,by simp⟩
   · have h2:c ∈ l:=by
      rcases List.mem_cons.1 h with h|h
      · exact absurd h.symm e
      · exact h
     obtain⟨p,r,rfl,h3⟩:=ztt l c h2;refine⟨b::p,r,rfl,fun h4=> ?_⟩
     rcases List.mem_cons.1 h4 with h4|h4
     · exact e h4.symm
     · exact h3 h4
theorem zeM: ∀ (n:Nat) (s:Str),s.length≤n→∀ k,s.count 32≤k→Lib.splitK [32] 0 k s=yF s
 | 0,s,hs,k,_=>by
   have:s=[]:=List.length_eq_zero_iff.1 (by omega)
   subst this
   cases k<;>rfl
 | n + 1,s,hs,k,hk=>by
   by_cases hm:(32:UInt8) ∈ s
   · obtain⟨p,r,rfl,hp⟩:=ztt s 32 hm
     have hc:(p++32::r).count 32=r.count 32+1:=by
      rw [List.count_append,List.count_eq_zero.2 hp,List.count_cons_self];omega
     rw [hc] at hk
     cases k with
     |zero=>omega
     | succ k=>
       rw [zbL p r hp];unfold Lib.splitK;rw [zkk p r 32 hp]
       have: ¬ ((p.length:Int) == -1)=true:=fun e=>by have:=beq_iff_eq.1 e;omega
       rw [if_neg this];simp only [jJ,Nat.add_zero,jh,ji,Nat.zero_add]
       rw [List.take_left,show p.length+1=(p++[(32:UInt8)]).length by simp,show p++32::r=(p++[32])++r by simp,List.drop_left]
       congr 1
       refine zeM n r ?_ k (by omega)
       simp only [jk,jh] at hs;omega
   · rw [QZ s hm]
     cases k with
     |zero=>rfl
     | succ k=>
       unfold Lib.splitK;rw [index_one s 32 hm];rfl
theorem count_one (s:Str):Lib.count s [32]=s.count 32:=Lib.count_one 32 s
theorem Q5: ∀ (s:Str),(yF s).length=s.count 32+1
 |[]=>rfl
 | c ::r=>by
   have ih:=Q5 r;rw [yF]
   split
   · rename_i h;subst h;rw [jh,ih,List.count_cons_self]
   · rename_i h
     rw [List.count_cons_of_ne (by simpa using h)]
     cases hq:yF r with
     |nil=>exact absurd hq (zbK r)
     |cons w ws=>rw [hq] at ih;simpa using ih
theorem zm3 {S:Frz} {l:List Str} (hl: ∀ x ∈ l,x.length≤maxLen) {vs:List Value} (hv:vs=l.map fun x=>Value.string (Sep.S x)): ∀ (i:Nat) (x:Str) (j:Nat) (p:P) (v:Value),l[i]? =some x→(enc alg .str x)[j]? =some p→vs[i * U.str.size+j]? =some v→MP S p v:=by
 intro i x j p v hi hj hv2
 cases j with
 | zero=>
   simp only [enc,List.getElem?_cons_zero,jw] at hj;subst hj
   rw [hv,show i * U.str.size+0=i by simp [U.size],List.getElem?_map,hi] at hv2
   cases hv2;exact .str _ (hl x (List.mem_of_getElem? hi))
 |succ j=>simp [enc] at hj
theorem tu: ∀ (s:Str),∀ x ∈ yF s,x.length≤s.length
 |[],x,h=>by simp [yF] at h;subst h;simp
 | c ::r,x,h=>by
   have ih:=tu r;rw [yF] at h
   split at h
   · rcases List.mem_cons.1 h with rfl|h
     · simp
     · have:=ih x h;simp;omega
   · cases hq:yF r with
     |nil=>exact absurd hq (zbK r)
     | cons w ws=>
       rw [hq] at h ih
       rcases List.mem_cons.1 h with rfl|h
       · have:=ih w List.mem_cons_self;simp;omega
       · have:=ih x (List.mem_cons_of_mem _ h);simp;omega
def SE (I:Alg):KU
 |[.v (.one (.p (.str s))),.v (.one (.p (.str ([32]))))],[]=>(fun(s:Str)=>(some (.one ⟨I.hid (s.length≤1000000),(.ret (.v (.one (.row 0)))),[.row .str 9 (I.hid (yF s))]⟩):Option CT)) s
 |_,_=>none
theorem zi2:zx Tryz.prog 210 (SE alg):=by
 intro args hp r h;unfold SE at h;split at h<;>cases h
 rename_i s;simp only [CT.Good,zh];intro hneed;have hlen:=Q5 s;have hcl:s.count 32≤s.length:=List.count_le_length
 refine Spc.zvT (hp:=[]) (u:=.str) (by rw [hlen];unfold maxLen;omega) ⟨_,Tryz.func210,by kernel_rfl,by kernel_rfl⟩ fun S bs w vs hW hM=> ?_
 obtain⟨v,r,rfl⟩: ∃ v r,vs=v::r:=by cases vs with|nil=>exact hM.elim|cons v r=>exact⟨v,r,rfl⟩
 obtain⟨h1,hM⟩:=hM
 obtain⟨v2,r2,rfl⟩: ∃ v r2,r=v::r2:=by cases r with|nil=>exact hM.elim|cons v r=>exact⟨v,r,rfl⟩
 obtain⟨h2,hM⟩:=hM
 obtain rfl:r2=[]:=by cases r2 with|nil=>rfl|cons v r=>exact hM.elim
 obtain⟨mx,hmx⟩:=hW.2
 cases h1 with
 | str _ hl1=>
   cases h2 with
   | str _ hl2=>
     have hc:=Tryz.strings_Split (Sep.S s) (Sep.S [32]) mx w (by show s.length<_;omega) hmx (by decide)
     have hk:Lib.countB (Sep.S s) (Sep.S [32])=s.count 32:=count_one s
     have hd:(Lib.splitB (Sep.S [32]) 0 (Lib.countB (Sep.S s) (Sep.S [32])) (Sep.S s)).map (fun b=>b.data.toList)=yF s:=by
      rw [Lib.splitB_data,hk];exact zeM s.length s (jL _) _ (jL _)
     have hv:(Lib.splitB (Sep.S [32]) 0 (Lib.countB (Sep.S s) (Sep.S [32])) (Sep.S s)).map Value.string=(yF s).map fun x=>Value.string (Sep.S x):=by
      rw [← hd,List.map_map]
      exact List.map_congr_left fun b _=>by simp [Sep.S]
     refine⟨((Lib.splitB (Sep.S [32]) 0 (Lib.countB (Sep.S s) (Sep.S [32])) (Sep.S s)).map Value.string).toArray,?_,?_,hc.mono fun e w' h=> ?_⟩
     · rw [hv];simp [U.size]
     · exact zm3 (fun x hx=>by have:=tu s x hx;unfold maxLen;omega) (by rw [hv])
     · obtain⟨he,hw⟩:=h
       rw [hk] at he;rw [hlen];exact⟨he,hw⟩
def zi1:Know Tryz.prog:=⟨210,SE,zi2⟩
def zi0:Know Tryz.prog:=⟨210,fun I=>zu I (SE I),zf zi2⟩
end Go.Proofs.YtkjepecoodjbmaaGreatDoor
namespace Go.Proofs.YtkjepecoodjbmaaGreatDoor
open Go Go.Sep Go.Ab
set_option maxRecDepth 100000
theorem zmO (s:Str):decide (0≤Lib.indexByte s 9)=s.contains 9:=by
 have h: ∀ s:Str,(0≤Lib.indexByte s 9)↔s.contains 9=true:=by
  intro s
  induction s with
  |nil=>simp [Lib.indexByte]
  | cons b l ih=>
    have hb:=Yj l 9;unfold Lib.indexByte
    by_cases e:b=9
    · subst e;simp
    · have e2:(b == 9)=false:=by simpa using e
      have e3:((9:UInt8) == b)=false:=by simpa using fun h:9=b=>e h.symm
      rw [e2,if_neg (by simp),List.contains_cons,e3,Bool.false_or,← ih]
      split
      · rename_i h;have:=beq_iff_eq.1 h;omega
      · rename_i h;have: ¬ Lib.indexByte l 9= -1:=fun e=>h (by rw [e];rfl);omega
 rw [Bool.eq_iff_iff,decide_eq_true_eq];exact h s
theorem zmN (s:Str):(0≤Lib.indexByte s 9)↔s.contains 9=true:=by rw [← zmO,decide_eq_true_iff]
theorem zjL (b:Str):Lib.hasPrefix b [47]=decide (b.head?=some 47):=by
 cases b with
 |nil=>rfl
 | cons c r=>
   unfold Lib.hasPrefix
   by_cases h:c=47
   · subst h;simp [List.isPrefixOf]
   · simp [List.isPrefixOf,h];exact fun e=>h e.symm
def sG (q:Rq) (s:Str):Rq:=
 if(begM s).1=0 then { q with h:=(begM s).2,pos:=1} else if(begM s).1=11 then { q with h:=(begM s).2} else q
def vT (q:Rq):Prop:=q.own=true
theorem zrl (ln:Ln) (p:Int) (m tg:Str) (hm:Int) (hf:List Fld) (hl le:Int) (out:List Evt) (s:Str) (hneed:vT ⟨ln,p,⟨m,tg,hm,hf,hl⟩,le,none,true,out⟩∧s.length≤1000000):Spc Tryz.prog 171 [.v (.one (.ptr 0 0)),.v (.one (.p (.str s)))] [.abs (.rq ⟨ln,p,⟨m,tg,hm,hf,hl⟩,le,none,true,out⟩)] (.ret (.v (.one (.p (.int .i64 ((begM s).1)))))) [.abs (.rq ((sG ⟨ln,p,⟨m,tg,hm,hf,hl⟩,le,none,true,out⟩ s)))]:=by
 obtain⟨-,hs⟩:=hneed;generalize hr:begM s=r;obtain⟨rc,⟨rm,rt,ri,rf,rl⟩⟩:=r;unfold sG;rw [hr];unfold begM at hr;have hsm:=tu s
 refine spH Tryz.func171 (by kernel_rfl) { cfgQ with keep:=some [0,1,4,5,39]} [tZ,tY,zi1,zi0,xC,xB,TN,TM] (by kernel_rfl) ?_
 intro I X hI hX
 refine orcL ?_;go_invoke;refine orcS (by kernel_rfl) ?_
 simp only [zi,Nat.reduceAdd];subst hI;simp only [nrmA,nrmB,nrlB,reduceCtorEq,HO.abs.injEq,Gh.rq.injEq,Rq.mk.injEq];generalize yF s=L at *
 by_cases h3:L.length=3
 · obtain⟨a,b,c,rfl⟩: ∃ a b c,L=[a,b,c]:=by
    match L,h3 with
    |[a,b,c],_=>exact⟨a,b,c,rfl⟩
   have ha:=hsm a (by simp)
   have hb:=hsm b (by simp)
   clear hsm h3;simp only [show Int.toNat 1=1 from rfl,show Int.toNat 2=2 from rfl,List.getD_cons_zero,List.getD_cons_succ,zjL,zmO,zmN,Bool.decide_eq_true] at hr ⊢
   by_cases q1:Xo a=false
   · rw [if_pos q1] at hr
     simp only [Prod.mk.injEq,hd0,Hd.mk.injEq] at hr;obtain⟨rfl,rfl,rfl,rfl,rfl,rfl⟩:=hr
     (repeat' (first|refine ja ?_ ?_|intro _))<;>first|omega|exact jb|exact jc ‹False›|skip
     all_goals first|omega|rfl|(simp only [jh,ji];omega)|(simp_all;done)|trace_state
   rw [if_neg q1] at hr
   by_cases q2:b.head?≠some 47∨b.contains 9=true
   · rw [if_pos q2] at hr
     simp only [Prod.mk.injEq,hd0,Hd.mk.injEq] at hr;obtain⟨rfl,rfl,rfl,rfl,rfl,rfl⟩:=hr
     (repeat' (first|refine ja ?_ ?_|intro _))<;>first|omega|exact jb|exact jc ‹False›|skip
     all_goals first|omega|rfl|(simp only [jh,ji];omega)|(simp_all;done)|trace_state
   rw [if_neg q2] at hr
   by_cases q3:c=Vf
   · rw [if_pos q3] at hr
     simp only [Prod.mk.injEq,Hd.mk.injEq] at hr;obtain⟨rfl,rfl,rfl,rfl,rfl,rfl⟩:=hr;unfold Vf at q3
     (repeat' (first|refine ja ?_ ?_|intro _))<;>first|omega|exact jb|exact jc ‹False›|skip
     all_goals first|omega|rfl|(simp only [jh,ji];omega)|(simp_all;done)|trace_state
   rw [if_neg q3] at hr
   by_cases q4:c=zaO
   · rw [if_pos q4] at hr
     simp only [Prod.mk.injEq,Hd.mk.injEq] at hr;obtain⟨rfl,rfl,rfl,rfl,rfl,rfl⟩:=hr;unfold Vf at q3;unfold zaO at q4
     (repeat' (first|refine ja ?_ ?_|intro _))<;>first|omega|exact jb|exact jc ‹False›|skip
     all_goals first|omega|rfl|(simp only [jh,ji];omega)|(simp_all;done)|trace_state
   rw [if_neg q4] at hr;simp only [Prod.mk.injEq,Hd.mk.injEq] at hr;obtain⟨rfl,rfl,rfl,rfl,rfl,rfl⟩:=hr;unfold Vf at q3;unfold zaO at q4
   (repeat' (first|refine ja ?_ ?_|intro _))<;>first|omega|exact jb|exact jc ‹False›|skip
   all_goals first|omega|rfl|(simp only [jh,ji];omega)|(simp_all;done)|trace_state
 · have hr2:(5,hd0)=((rc,⟨rm,rt,ri,rf,rl⟩):Int × Hd):=by
    rw [← hr]
    split
    · exact absurd rfl h3
    · rfl
   simp only [Prod.mk.injEq,hd0,Hd.mk.injEq] at hr2;obtain⟨rfl,rfl,rfl,rfl,rfl,rfl⟩:=hr2
   (repeat' (first|refine ja ?_ ?_|intro _))<;>first|omega|exact jb|exact jc ‹False›|skip
   all_goals first|omega|rfl|(simp only [jh,ji];omega)|trace_state
theorem zrm (ln:Ln) (p:Int) (m tg:Str) (hm:Int) (hf:List Fld) (hl le:Int) (out:List Evt) (s:Str) (hneed:vT ⟨ln,p,⟨m,tg,hm,hf,hl⟩,le,none,false,out⟩∧s.length≤1000000):Spc Tryz.prog 171 [.v (.one (.ptr 0 0)),.v (.one (.p (.str s)))] [.abs (.rq ⟨ln,p,⟨m,tg,hm,hf,hl⟩,le,none,false,out⟩)] (.ret (.v (.one (.p (.int .i64 ((begM s).1)))))) [.abs (.rq ((sG ⟨ln,p,⟨m,tg,hm,hf,hl⟩,le,none,false,out⟩ s)))]:=by
 exact absurd hneed.1 (fun h=>by unfold vT at h;cases h)
theorem zrj (ln:Ln) (p:Int) (m tg:Str) (hm:Int) (hf:List Fld) (hl le:Int) (ch:Ch) (out:List Evt) (s:Str) (hneed:vT ⟨ln,p,⟨m,tg,hm,hf,hl⟩,le,some ch,true,out⟩∧s.length≤1000000):Spc Tryz.prog 171 [.v (.one (.ptr 0 0)),.v (.one (.p (.str s)))] [.abs (.rq ⟨ln,p,⟨m,tg,hm,hf,hl⟩,le,some ch,true,out⟩)] (.ret (.v (.one (.p (.int .i64 ((begM s).1)))))) [.abs (.rq ((sG ⟨ln,p,⟨m,tg,hm,hf,hl⟩,le,some ch,true,out⟩ s)))]:=by
 obtain⟨-,hs⟩:=hneed;generalize hr:begM s=r;obtain⟨rc,⟨rm,rt,ri,rf,rl⟩⟩:=r;unfold sG;rw [hr];unfold begM at hr;have hsm:=tu s
 refine spH Tryz.func171 (by kernel_rfl) { cfgQ with keep:=some [0,1,4,5,39]} [tZ,tY,zi1,zi0,xC,xB,TN,TM] (by kernel_rfl) ?_
 intro I X hI hX
 refine orcL ?_;go_invoke;refine orcS (by kernel_rfl) ?_
 simp only [zi,Nat.reduceAdd];subst hI;simp only [nrmA,nrmB,nrlB,reduceCtorEq,HO.abs.injEq,Gh.rq.injEq,Rq.mk.injEq];generalize yF s=L at *
 by_cases h3:L.length=3
 · obtain⟨a,b,c,rfl⟩: ∃ a b c,L=[a,b,c]:=by
    match L,h3 with
    |[a,b,c],_=>exact⟨a,b,c,rfl⟩
   have ha:=hsm a (by simp)
   have hb:=hsm b (by simp)
   clear hsm h3;simp only [show Int.toNat 1=1 from rfl,show Int.toNat 2=2 from rfl,List.getD_cons_zero,List.getD_cons_succ,zjL,zmO,zmN,Bool.decide_eq_true] at hr ⊢
   by_cases q1:Xo a=false
   · rw [if_pos q1] at hr
     simp only [Prod.mk.injEq,hd0,Hd.mk.injEq] at hr;obtain⟨rfl,rfl,rfl,rfl,rfl,rfl⟩:=hr
     (repeat' (first|refine ja ?_ ?_|intro _))<;>first|omega|exact jb|exact jc ‹False›|skip
     all_goals first|omega|rfl|(simp only [jh,ji];omega)|(simp_all;done)|trace_state
   rw [if_neg q1] at hr
   by_cases q2:b.head?≠some 47∨b.contains 9=true
   · rw [if_pos q2] at hr
     simp only [Prod.mk.injEq,hd0,Hd.mk.injEq] at hr;obtain⟨rfl,rfl,rfl,rfl,rfl,rfl⟩:=hr
     (repeat' (first|refine ja ?_ ?_|intro _))<;>first|omega|exact jb|exact jc ‹False›|skip
     all_goals first|omega|rfl|(simp only [jh,ji];omega)|(simp_all;done)|trace_state
   rw [if_neg q2] at hr
   by_cases q3:c=Vf
   · rw [if_pos q3] at hr
     simp only [Prod.mk.injEq,Hd.mk.injEq] at hr;obtain⟨rfl,rfl,rfl,rfl,rfl,rfl⟩:=hr;unfold Vf at q3
     (repeat' (first|refine ja ?_ ?_|intro _))<;>first|omega|exact jb|exact jc ‹False›|skip
     all_goals first|omega|rfl|(simp only [jh,ji];omega)|(simp_all;done)|trace_state
   rw [if_neg q3] at hr
   by_cases q4:c=zaO
   · rw [if_pos q4] at hr
     simp only [Prod.mk.injEq,Hd.mk.injEq] at hr;obtain⟨rfl,rfl,rfl,rfl,rfl,rfl⟩:=hr;unfold Vf at q3;unfold zaO at q4
     (repeat' (first|refine ja ?_ ?_|intro _))<;>first|omega|exact jb|exact jc ‹False›|skip
     all_goals first|omega|rfl|(simp only [jh,ji];omega)|(simp_all;done)|trace_state
   rw [if_neg q4] at hr;simp only [Prod.mk.injEq,Hd.mk.injEq] at hr;obtain⟨rfl,rfl,rfl,rfl,rfl,rfl⟩:=hr;unfold Vf at q3;unfold zaO at q4
   (repeat' (first|refine ja ?_ ?_|intro _))<;>first|omega|exact jb|exact jc ‹False›|skip
   all_goals first|omega|rfl|(simp only [jh,ji];omega)|(simp_all;done)|trace_state
 · have hr2:(5,hd0)=((rc,⟨rm,rt,ri,rf,rl⟩):Int × Hd):=by
    rw [← hr]
    split
    · exact absurd rfl h3
    · rfl
   simp only [Prod.mk.injEq,hd0,Hd.mk.injEq] at hr2;obtain⟨rfl,rfl,rfl,rfl,rfl,rfl⟩:=hr2
   (repeat' (first|refine ja ?_ ?_|intro _))<;>first|omega|exact jb|exact jc ‹False›|skip
   all_goals first|omega|rfl|(simp only [jh,ji];omega)|trace_state
theorem zrk (ln:Ln) (p:Int) (m tg:Str) (hm:Int) (hf:List Fld) (hl le:Int) (ch:Ch) (out:List Evt) (s:Str) (hneed:vT ⟨ln,p,⟨m,tg,hm,hf,hl⟩,le,some ch,false,out⟩∧s.length≤1000000):Spc Tryz.prog 171 [.v (.one (.ptr 0 0)),.v (.one (.p (.str s)))] [.abs (.rq ⟨ln,p,⟨m,tg,hm,hf,hl⟩,le,some ch,false,out⟩)] (.ret (.v (.one (.p (.int .i64 ((begM s).1)))))) [.abs (.rq ((sG ⟨ln,p,⟨m,tg,hm,hf,hl⟩,le,some ch,false,out⟩ s)))]:=by
 exact absurd hneed.1 (fun h=>by unfold vT at h;cases h)
def Ry (I:Alg):KU
 |[.v (.one (.ptr 0 0)),.v (.one (.p (.str s)))],[.abs (.rq q)]=>(fun(s:Str)=>(some (.one ⟨I.hid (vT q∧s.length≤1000000),(.ret (.v (.one (.p (.int .i64 (I.hid ((begM s).1))))))),[.abs (.rq (I.hid (sG q s)))]⟩):Option CT)) s
 |_,_=>none
theorem zjD:zx Tryz.prog 171 (Ry alg):=by
 intro args hp r h;unfold Ry at h;split at h<;>cases h
 rename_i s q;simp only [CT.Good,zh];intro hneed;obtain⟨ln,p,⟨m,tg,hm,hf,hl⟩,le,ck,own,out⟩:=q
 cases ck with
 | none=>cases own with
   |true=>exact zrl ln p m tg hm hf hl le out s hneed
   |false=>exact zrm ln p m tg hm hf hl le out s hneed
 | some ch=>cases own with
   |true=>exact zrj ln p m tg hm hf hl le ch out s hneed
   |false=>exact zrk ln p m tg hm hf hl le ch out s hneed
def zjC:Know Tryz.prog:=⟨171,Ry,zjD⟩
def zjB:Know Tryz.prog:=⟨171,fun I=>zu I (Ry I),zf zjD⟩
def FsOk (f:List Fld):Prop:=f.length≤1000∧∀ x ∈ f,x.name.length≤1000000∧x.value.length≤1000000
theorem XP (f:List Fld) (n:Str):(valsF f n).length≤f.length:=by
 unfold valsF
 first|exact Nat.le_trans (List.length_map ..).le (List.length_filter_le _ _)|(rw [List.length_map];exact List.length_filter_le _ _)|exact List.length_filterMap_le _ _
theorem zqV (a:Str) (n:Int) (l:List Str) (i:Nat) (h: ¬ i<l.length):sizM a n (l.drop i)=(n,0):=by
 rw [jF (by omega)];rfl
theorem znb (a:Str) (n:Int) (l:List Str) (i:Nat) (h:i<l.length):sizM a n (l.drop i)=if(numA (l.getD i []) 10 9).2=false then(0,7) else if l.getD i []≠a then(0,12) else sizM a (numA (l.getD i []) 10 9).1 (l.drop (i+1)):=by
 rw [jE h,show l.getD i []=l[i] by simp [h]];rfl
def Ru (I:Alg):KU
 |[.v (.agg [.p (.str m),.p (.str t),.p (.int .i64 mi),.p (.list .fld f),.p (.int .i64 le)])],[]=>(fun(m t:Str) (f:List Fld)=>(some (.one ⟨I.hid (FsOk f),(.ret (.tup [.one (.p (.int .i64 (I.hid ((lenM mi f).1)))),.one (.p (.int .i64 (I.hid ((lenM mi f).2))))])),[]⟩):Option CT)) m t f
 |_,_=>none
theorem zjy:zx Tryz.prog 212 (Ru alg):=by
 intro args hp r h;unfold Ru at h;split at h<;>cases h
 rename_i m t mi f le
 revert f;intro(f:List Fld)
 simp only [CT.Good,zh];intro hneed;obtain⟨hf1,hf2⟩:=hneed;generalize hr:lenM mi f=r;obtain⟨rn,rc⟩:=r
 refine spH Tryz.func212 (by kernel_rfl) { keep:=some [0,1,2,3,4,5,6,7,8,9,10,45,46,47]} [wI,wH,XM,XL,sD,su] (by kernel_rfl) ?_
 intro I X hI hX
 refine orcL ?_;go_invoke;refine orcS (by kernel_rfl) ?_
 simp only [zi,Nat.reduceAdd]
 have hh: ∀ {α:Type} (x:α),I.hid x=x:=by subst hI;intros;rfl
 have hln: ∀ (l:List Str),I.len l=(l.length:Int):=by subst hI;intros;rfl
 simp only [hh,hln];unfold lenM at hr;rw [show zc3=[116,114,97,110,115,102,101,114,45,101,110,99,111,100,105,110,103] from rfl,show Yu=[99,111,110,116,101,110,116,45,108,101,110,103,116,104] from rfl] at hr;have hL1:=XP f [99,111,110,116,101,110,116,45,108,101,110,103,116,104];have hT1:=XP f [116,114,97,110,115,102,101,114,45,101,110,99,111,100,105,110,103]
 have hT2: ∀ x ∈ valsF f [116,114,97,110,115,102,101,114,45,101,110,99,111,100,105,110,103],x.length≤1000000:=by
  intro x hx;unfold valsF at hx;rw [List.mem_map] at hx;obtain⟨y,hy,rfl⟩:=hx;exact(hf2 y (List.mem_filter.1 hy).1).2
 generalize valsF f [99,111,110,116,101,110,116,45,108,101,110,103,116,104]=L at *;generalize valsF f [116,114,97,110,115,102,101,114,45,101,110,99,111,100,105,110,103]=T at *
 have keyL: ∀ (k:Int) (st:St),k=(L.length:Int)→(if(sizM (L.getD 0 []) 0 L).2≠0 then(0,(sizM (L.getD 0 []) 0 L).2) else if 4000<(sizM (L.getD 0 []) 0 L).1 then(0,4) else((sizM (L.getD 0 []) 0 L).1,0))=(rn,rc)→cutM { keep:=some [0,1,2,3,4,5,6,7,8,9,10,45,46,47]} 0 [4,6,45,46,47] st=some ⟨[(4,.v (.one (.row 0))),(6,.v (.one (.p (.int .i64 0)))),(45,.v (.one (.row 0))),(46,.v (.one (.p (.int .i64 k)))),(47,.v (.one (.p (.int .i64 0))))],[.row .str 9 L],75,none⟩→Ok Tryz.prog X (fun o h=>o=(.ret (.tup [.one (.p (.int .i64 rn)),.one (.p (.int .i64 rc))]))∧h=[]) (leaf I tab { keep:=some [0,1,2,3,4,5,6,7,8,9,10,45,46,47]} [⟨vO Tryz.f212,finK I tab { keep:=some [0,1,2,3,4,5,6,7,8,9,10,45,46,47]} 0 Tryz.f212⟩] 0 [1,1,1,1,0,1,0] st):=by
  intro k st hk hm hst
  refine lpH hI [wI,wH,XM,XL,sD,su] hX [4,6,45,46,47] (fun(g:Nat × Int)=>match g with|(i,n)=>i≤L.length∧(if(sizM (L.getD 0 []) n (L.drop i)).2≠0 then(0,(sizM (L.getD 0 []) n (L.drop i)).2) else if 4000<(sizM (L.getD 0 []) n (L.drop i)).1 then(0,4) else((sizM (L.getD 0 []) n (L.drop i)).1,0))=(rn,rc)) (fun(g:Nat × Int)=>match g with|(i,n)=>⟨[(4,.v (.one (.row 0))),(6,.v (.one (.p (.int .i64 n)))),(45,.v (.one (.row 0))),(46,.v (.one (.p (.int .i64 k)))),(47,.v (.one (.p (.int .i64 i))))],[.row .str 9 L],75,none⟩) (fun(g:Nat × Int)=>match g with|(i,n)=>L.length - i) (0,0) (by kernel_rfl) hst ?_ ?_
  · exact⟨jM _,hm⟩
  clear hm hst hr;rintro⟨i,n⟩ ⟨h1,hm⟩ A hA;simp only at hA
  refine orcL ?_;go_invoke;refine orcS (by kernel_rfl) ?_
  simp only [zi,Nat.reduceAdd];subst hI;simp only [nrmA,nrmB]
  by_cases hi:i<L.length
  · rw [znb _ _ _ _ hi] at hm
    have h0:i=0→L.getD i []=L.getD 0 []:=fun h=>by rw [h]
    have hn:=vV (L.getD i []);have hgo:=hA (i+1,(numA (L.getD i []) 10 9).1);generalize L.getD i []=x at *;generalize L.getD 0 []=y at *;generalize numA x 10 9=na at *;obtain⟨na,nb⟩:=na;simp only at hm hgo hn
    cases nb with
    | false=>
      rw [if_pos rfl] at hm;simp only [ne_eq,Int.reduceEq,jg,if_true,Prod.mk.injEq] at hm;obtain⟨rfl,rfl⟩:=hm
      (repeat' (first|refine ja ?_ ?_|intro _))<;>first|omega|exact jb|exact jc ‹False›|skip
      all_goals first|omega|rfl|contradiction|(simp_all;done)|trace_state
    | true=>
      simp only [je,if_false] at hm
      by_cases hxy:x=y
      · simp only [if_neg (fun h:x≠y=>h hxy)] at hm
        have hg:=hgo ⟨by omega,hm⟩ (by omega)
        (repeat' (first|refine ja ?_ ?_|intro _))<;>first|omega|exact jb|exact jc ‹False›|skip
        all_goals first|omega|exact hg|contradiction|(exfalso;exact ‹¬ x=y› hxy)|trace_state
      · simp only [if_pos (show x≠y from hxy),ne_eq,Int.reduceEq,jg,if_true,Prod.mk.injEq] at hm
        obtain⟨rfl,rfl⟩:=hm;have hi0: ¬ i=0:=fun h=>hxy (h0 h)
        (repeat' (first|refine ja ?_ ?_|intro _))<;>first|omega|exact jb|exact jc ‹False›|skip
        all_goals first|omega|rfl|contradiction|(exfalso;exact hxy ‹x=y›)|trace_state
  · rw [zqV _ _ _ _ hi] at hm
    simp only [ne_eq,jf,if_false] at hm
    by_cases h4:4000<n
    · rw [if_pos h4] at hm
      simp only [Prod.mk.injEq] at hm;obtain⟨rfl,rfl⟩:=hm
      (repeat' (first|refine ja ?_ ?_|intro _))<;>first|omega|exact jb|exact jc ‹False›|skip
      all_goals first|omega|rfl|trace_state
    · rw [if_neg h4] at hm
      simp only [Prod.mk.injEq] at hm;obtain⟨rfl,rfl⟩:=hm
      (repeat' (first|refine ja ?_ ?_|intro _))<;>first|omega|exact jb|exact jc ‹False›|skip
      all_goals first|omega|rfl|trace_state
 subst hI;have hT0:T.length=0↔T=[]:=List.length_eq_zero_iff;have hLz:L.length=0↔L=[]:=List.length_eq_zero_iff;simp only [nrmA,nrmB]
 have hg0:0<T.length→(T.getD 0 []).length≤1000000:=fun h=>hT2 _ (by rw [show T.getD 0 []=T[0] by simp [h]];exact List.getElem_mem h)
 by_cases q1:T=[]
 · rw [if_neg (fun h=>h q1)] at hr
   have q2:=hT0.2 q1;clear hg0 hT2
   (repeat' (first|refine ja ?_ ?_|intro _))<;>first|omega|exact jb|exact jc ‹False›|skip
   all_goals first
    |omega
    |((with_reducible show Ok _ _ _ _);(try(exfalso;omega));exact keyL _ _ rfl hr (by kernel_rfl))
    |exact⟨hf1,by decide,hf2⟩
    |exact hf1
    |(exact(hf2 _ ‹_›).1)
    |(exact(hf2 _ ‹_›).2)
    |decide
 · rw [if_pos q1] at hr
   have q2: ¬ T.length=0:=fun h=>q1 (hT0.1 h);clear keyL
   by_cases q3:L≠[]∨mi=0
   · rw [if_pos q3] at hr
     simp only [Prod.mk.injEq] at hr;obtain⟨rfl,rfl⟩:=hr
     have q4:L.length=0→mi=0:=fun h=>by
      rcases q3 with q3|q3
      · exact absurd (hLz.1 h) q3
      · exact q3
     (repeat' (first|refine ja ?_ ?_|intro _))<;>first|omega|exact jb|exact jc ‹False›|skip
     all_goals first|omega|rfl|(exact(hf2 _ ‹_›).1)|(exact(hf2 _ ‹_›).2)|decide|trace_state
   · rw [if_neg q3] at hr
     simp only [not_or,ne_eq,Decidable.not_not] at q3;have q4:=hLz.2 q3.1
     by_cases q5:1<T.length∨lowS (T.getD 0 [])≠Qz
     · rw [if_pos q5] at hr
       unfold Qz at q5;simp only [Prod.mk.injEq] at hr;obtain⟨rfl,rfl⟩:=hr
       (repeat' (first|refine ja ?_ ?_|intro _))<;>first|omega|exact jb|exact jc ‹False›|skip
       all_goals first|omega|rfl|(exact(hf2 _ ‹_›).1)|(exact(hf2 _ ‹_›).2)|decide|exact hg0 (by omega)|(exfalso;rcases q5 with q5|q5<;>first|omega|exact q5 ‹_›)|trace_state
     · rw [if_neg q5] at hr
       unfold Qz at q5;simp only [not_or,ne_eq,Decidable.not_not] at q5;simp only [Prod.mk.injEq] at hr;obtain⟨rfl,rfl⟩:=hr
       (repeat' (first|refine ja ?_ ?_|intro _))<;>first|omega|exact jb|exact jc ‹False›|skip
       all_goals first|omega|rfl|(exact(hf2 _ ‹_›).1)|(exact(hf2 _ ‹_›).2)|decide|exact hg0 (by omega)|(exfalso;exact ‹¬ _=_› q5.2)|trace_state
def zjx:Know Tryz.prog:=⟨212,Ru,zjy⟩
def zjw:Know Tryz.prog:=⟨212,fun I=>zu I (Ru I),zf zjy⟩
end Go.Proofs.YtkjepecoodjbmaaGreatDoor
namespace Go.Proofs.YtkjepecoodjbmaaGreatDoor
open Go Go.Sep Go.Ab
set_option maxRecDepth 100000
def rqFs (q:Rq):Prop:=FsOk q.h.fields∧q.out.length≤9000000
theorem znO (ln:Ln) (p:Int) (m tg:Str) (hm:Int) (hf:List Fld) (hl le:Int) (out:List Evt) (hneed:vT ⟨ln,p,⟨m,tg,hm,hf,hl⟩,le,none,true,out⟩∧rqFs ⟨ln,p,⟨m,tg,hm,hf,hl⟩,le,none,true,out⟩):Spc Tryz.prog 172 [.v (.one (.ptr 0 0))] [.abs (.rq ⟨ln,p,⟨m,tg,hm,hf,hl⟩,le,none,true,out⟩)] (.ret (.v (.one (.p (.int .i64 ((yG ⟨ln,p,⟨m,tg,hm,hf,hl⟩,le,none,true,out⟩).2)))))) [.abs (.rq (((yG ⟨ln,p,⟨m,tg,hm,hf,hl⟩,le,none,true,out⟩).1)))]:=by
 obtain⟨-,hfs,hfw⟩:=hneed;simp only at hfs hfw;obtain⟨hf1,hf2⟩:=hfs;generalize hr:yG ⟨ln,p,⟨m,tg,hm,hf,hl⟩,le,none,true,out⟩=r;obtain⟨rq,rc⟩:=r
 have hhl:TU.length≤1000000:=by decide
 refine spH Tryz.func172 (by kernel_rfl) { cfgQ with fz:=[117],keep:=some [0,2,4,5]} [Yp,Yo,zk7,zk6,zW,zV,yc,zZ,yx,yw,yE,yD,x9,xZ,YR,YQ,zjx,zjw] (by kernel_rfl) ?_
 intro I X hI hX
 refine orcL ?_;go_invoke;refine orcS (by kernel_rfl) ?_
 simp only [zi,Nat.reduceAdd];subst hI;unfold yG zut at hr;simp only at hr;rw [show([104,111,115,116]:Str)=TU from rfl];simp only [nrmA,nrmB,nrlB,reduceCtorEq,HO.abs.injEq,Gh.rq.injEq,Rq.mk.injEq];have hln:=zhP hm hf;generalize oneF (valsF hf TU)=oc at *;obtain⟨ov,oc⟩:=oc;simp only at hr ⊢;generalize lenM hm hf=z at *;obtain⟨zn,zc⟩:=z;simp only at hr hln ⊢
 by_cases q1:(decide (oc=9)||decide (oc=10)&&decide (hm=1))=true
 · rw [if_pos q1] at hr
   simp only [Prod.mk.injEq] at hr;obtain⟨rfl,rfl⟩:=hr;simp only [Bool.or_eq_true,jK,decide_eq_true_eq] at q1
   (repeat' (first|refine ja ?_ ?_|intro _))<;>first|omega|exact jb|exact jc ‹False›|skip
   all_goals first|omega|rfl|exact hf1|exact⟨hf1,hf2⟩|(exact(hf2 _ ‹_›).1)|(exact(hf2 _ ‹_›).2)|(unfold zC;simp only;omega)|trace_state
 rw [if_neg q1] at hr;simp only [Bool.or_eq_true,jK,decide_eq_true_eq] at q1
 by_cases q2:zc=0
 · rw [if_neg (fun h=>h q2)] at hr
   by_cases q3:zn=0
   · rw [if_pos q3] at hr
     simp only [Prod.mk.injEq] at hr;obtain⟨rfl,rfl⟩:=hr;subst q3
     (repeat' (first|refine ja ?_ ?_|intro _))<;>first|omega|exact jb|exact jc ‹False›|skip
     all_goals first|omega|rfl|exact hf1|exact⟨hf1,hf2⟩|(exact(hf2 _ ‹_›).1)|(exact(hf2 _ ‹_›).2)|(unfold zC;simp;omega)|trace_state
   rw [if_neg q3] at hr
   by_cases q4:0<zn
   · rw [if_pos q4] at hr
     simp only [Prod.mk.injEq] at hr;obtain⟨rfl,rfl⟩:=hr
     (repeat' (first|refine ja ?_ ?_|intro _))<;>first|omega|exact jb|exact jc ‹False›|skip
     all_goals first|omega|rfl|exact hf1|exact⟨hf1,hf2⟩|(exact(hf2 _ ‹_›).1)|(exact(hf2 _ ‹_›).2)|(unfold zC;simp;omega)|trace_state
   · rw [if_neg q4] at hr
     simp only [Prod.mk.injEq] at hr;obtain⟨rfl,rfl⟩:=hr
     (repeat' (first|refine ja ?_ ?_|intro _))<;>first|omega|exact jb|exact jc ‹False›|skip
     all_goals first|omega|rfl|exact hf1|exact⟨hf1,hf2⟩|(exact(hf2 _ ‹_›).1)|(exact(hf2 _ ‹_›).2)|(unfold zC;simp;omega)|trace_state
 · rw [if_pos q2] at hr
   simp only [Prod.mk.injEq] at hr;obtain⟨rfl,rfl⟩:=hr
   (repeat' (first|refine ja ?_ ?_|intro _))<;>first|omega|exact jb|exact jc ‹False›|skip
   all_goals first|omega|rfl|exact hf1|exact⟨hf1,hf2⟩|(exact(hf2 _ ‹_›).1)|(exact(hf2 _ ‹_›).2)|(unfold zC;simp only;omega)|trace_state
theorem znP (ln:Ln) (p:Int) (m tg:Str) (hm:Int) (hf:List Fld) (hl le:Int) (out:List Evt) (hneed:vT ⟨ln,p,⟨m,tg,hm,hf,hl⟩,le,none,false,out⟩∧rqFs ⟨ln,p,⟨m,tg,hm,hf,hl⟩,le,none,false,out⟩):Spc Tryz.prog 172 [.v (.one (.ptr 0 0))] [.abs (.rq ⟨ln,p,⟨m,tg,hm,hf,hl⟩,le,none,false,out⟩)] (.ret (.v (.one (.p (.int .i64 ((yG ⟨ln,p,⟨m,tg,hm,hf,hl⟩,le,none,false,out⟩).2)))))) [.abs (.rq (((yG ⟨ln,p,⟨m,tg,hm,hf,hl⟩,le,none,false,out⟩).1)))]:=by
 exact absurd hneed.1 (fun h=>by unfold vT at h;cases h)
theorem znM (ln:Ln) (p:Int) (m tg:Str) (hm:Int) (hf:List Fld) (hl le:Int) (ch:Ch) (out:List Evt) (hneed:vT ⟨ln,p,⟨m,tg,hm,hf,hl⟩,le,some ch,true,out⟩∧rqFs ⟨ln,p,⟨m,tg,hm,hf,hl⟩,le,some ch,true,out⟩):Spc Tryz.prog 172 [.v (.one (.ptr 0 0))] [.abs (.rq ⟨ln,p,⟨m,tg,hm,hf,hl⟩,le,some ch,true,out⟩)] (.ret (.v (.one (.p (.int .i64 ((yG ⟨ln,p,⟨m,tg,hm,hf,hl⟩,le,some ch,true,out⟩).2)))))) [.abs (.rq (((yG ⟨ln,p,⟨m,tg,hm,hf,hl⟩,le,some ch,true,out⟩).1)))]:=by
 obtain⟨-,hfs,hfw⟩:=hneed;simp only at hfs hfw;obtain⟨hf1,hf2⟩:=hfs;generalize hr:yG ⟨ln,p,⟨m,tg,hm,hf,hl⟩,le,some ch,true,out⟩=r;obtain⟨rq,rc⟩:=r
 have hhl:TU.length≤1000000:=by decide
 refine spH Tryz.func172 (by kernel_rfl) { cfgQ with fz:=[117],keep:=some [0,2,4,5]} [Yp,Yo,zk7,zk6,zW,zV,yc,zZ,yx,yw,yE,yD,x9,xZ,YR,YQ,zjx,zjw] (by kernel_rfl) ?_
 intro I X hI hX
 refine orcL ?_;go_invoke;refine orcS (by kernel_rfl) ?_
 simp only [zi,Nat.reduceAdd];subst hI;unfold yG zut at hr;simp only at hr;rw [show([104,111,115,116]:Str)=TU from rfl];simp only [nrmA,nrmB,nrlB,reduceCtorEq,HO.abs.injEq,Gh.rq.injEq,Rq.mk.injEq];have hln:=zhP hm hf;generalize oneF (valsF hf TU)=oc at *;obtain⟨ov,oc⟩:=oc;simp only at hr ⊢;generalize lenM hm hf=z at *;obtain⟨zn,zc⟩:=z;simp only at hr hln ⊢
 by_cases q1:(decide (oc=9)||decide (oc=10)&&decide (hm=1))=true
 · rw [if_pos q1] at hr
   simp only [Prod.mk.injEq] at hr;obtain⟨rfl,rfl⟩:=hr;simp only [Bool.or_eq_true,jK,decide_eq_true_eq] at q1
   (repeat' (first|refine ja ?_ ?_|intro _))<;>first|omega|exact jb|exact jc ‹False›|skip
   all_goals first|omega|rfl|exact hf1|exact⟨hf1,hf2⟩|(exact(hf2 _ ‹_›).1)|(exact(hf2 _ ‹_›).2)|(unfold zC;simp only;omega)|trace_state
 rw [if_neg q1] at hr;simp only [Bool.or_eq_true,jK,decide_eq_true_eq] at q1
 by_cases q2:zc=0
 · rw [if_neg (fun h=>h q2)] at hr
   by_cases q3:zn=0
   · rw [if_pos q3] at hr
     simp only [Prod.mk.injEq] at hr;obtain⟨rfl,rfl⟩:=hr;subst q3
     (repeat' (first|refine ja ?_ ?_|intro _))<;>first|omega|exact jb|exact jc ‹False›|skip
     all_goals first|omega|rfl|exact hf1|exact⟨hf1,hf2⟩|(exact(hf2 _ ‹_›).1)|(exact(hf2 _ ‹_›).2)|(unfold zC;simp;omega)|trace_state
   rw [if_neg q3] at hr
   by_cases q4:0<zn
   · rw [if_pos q4] at hr
     simp only [Prod.mk.injEq] at hr;obtain⟨rfl,rfl⟩:=hr
     (repeat' (first|refine ja ?_ ?_|intro _))<;>first|omega|exact jb|exact jc ‹False›|skip
     all_goals first|omega|rfl|exact hf1|exact⟨hf1,hf2⟩|(exact(hf2 _ ‹_›).1)|(exact(hf2 _ ‹_›).2)|(unfold zC;simp;omega)|trace_state
   · rw [if_neg q4] at hr
     simp only [Prod.mk.injEq] at hr;obtain⟨rfl,rfl⟩:=hr
     (repeat' (first|refine ja ?_ ?_|intro _))<;>first|omega|exact jb|exact jc ‹False›|skip
     all_goals first|omega|rfl|exact hf1|exact⟨hf1,hf2⟩|(exact(hf2 _ ‹_›).1)|(exact(hf2 _ ‹_›).2)|(unfold zC;simp;omega)|trace_state
 · rw [if_pos q2] at hr
   simp only [Prod.mk.injEq] at hr;obtain⟨rfl,rfl⟩:=hr
   (repeat' (first|refine ja ?_ ?_|intro _))<;>first|omega|exact jb|exact jc ‹False›|skip
   all_goals first|omega|rfl|exact hf1|exact⟨hf1,hf2⟩|(exact(hf2 _ ‹_›).1)|(exact(hf2 _ ‹_›).2)|(unfold zC;simp only;omega)|trace_state
theorem znN (ln:Ln) (p:Int) (m tg:Str) (hm:Int) (hf:List Fld) (hl le:Int) (ch:Ch) (out:List Evt) (hneed:vT ⟨ln,p,⟨m,tg,hm,hf,hl⟩,le,some ch,false,out⟩∧rqFs ⟨ln,p,⟨m,tg,hm,hf,hl⟩,le,some ch,false,out⟩):Spc Tryz.prog 172 [.v (.one (.ptr 0 0))] [.abs (.rq ⟨ln,p,⟨m,tg,hm,hf,hl⟩,le,some ch,false,out⟩)] (.ret (.v (.one (.p (.int .i64 ((yG ⟨ln,p,⟨m,tg,hm,hf,hl⟩,le,some ch,false,out⟩).2)))))) [.abs (.rq (((yG ⟨ln,p,⟨m,tg,hm,hf,hl⟩,le,some ch,false,out⟩).1)))]:=by
 exact absurd hneed.1 (fun h=>by unfold vT at h;cases h)
def WG (I:Alg):KU
 |[.v (.one (.ptr 0 0))],[.abs (.rq q)]=>some (.one ⟨I.hid (vT q∧rqFs q),(.ret (.v (.one (.p (.int .i64 (I.hid ((yG q).2))))))),[.abs (.rq (I.hid ((yG q).1)))]⟩)
 |_,_=>none
theorem ze9:zx Tryz.prog 172 (WG alg):=by
 intro args hp r h;unfold WG at h;split at h<;>cases h
 rename_i q;simp only [CT.Good,zh];intro hneed;obtain⟨ln,p,⟨m,tg,hm,hf,hl⟩,le,ck,own,out⟩:=q
 cases ck with
 | none=>cases own with
   |true=>exact znO ln p m tg hm hf hl le out hneed
   |false=>exact znP ln p m tg hm hf hl le out hneed
 | some ch=>cases own with
   |true=>exact znM ln p m tg hm hf hl le ch out hneed
   |false=>exact znN ln p m tg hm hf hl le ch out hneed
def ze8:Know Tryz.prog:=⟨172,WG,ze9⟩
def ze7:Know Tryz.prog:=⟨172,fun I=>zu I (WG I),zf ze9⟩
theorem znB (ln:Ln) (p:Int) (m tg:Str) (hm:Int) (hf:List Fld) (hl le:Int) (out:List Evt) (s:Str) (hneed:vT ⟨ln,p,⟨m,tg,hm,hf,hl⟩,le,none,true,out⟩∧rqFs ⟨ln,p,⟨m,tg,hm,hf,hl⟩,le,none,true,out⟩∧s.length≤1000000):Spc Tryz.prog 122 [.v (.one (.ptr 0 0)),.v (.one (.p (.str s)))] [.abs (.rq ⟨ln,p,⟨m,tg,hm,hf,hl⟩,le,none,true,out⟩)] (.ret (.v (.one (.p (.int .i64 ((zU ⟨ln,p,⟨m,tg,hm,hf,hl⟩,le,none,true,out⟩ s).2)))))) [.abs (.rq (((zU ⟨ln,p,⟨m,tg,hm,hf,hl⟩,le,none,true,out⟩ s).1)))]:=by
 obtain⟨-,hfs,hs⟩:=hneed;have hfs0:=hfs;obtain⟨hfs,hfw⟩:=hfs;simp only at hfs hfw;obtain⟨hf1,hf2⟩:=hfs;generalize hr:zU ⟨ln,p,⟨m,tg,hm,hf,hl⟩,le,none,true,out⟩ s=r;obtain⟨rq,rc⟩:=r
 refine spH Tryz.func122 (by kernel_rfl) { cfgQ with seam:=[],keep:=some [0,1,4,5,6]} [WS,WR,zjC,zjB,ze8,ze7] (by kernel_rfl) ?_
 intro I X hI hX
 refine orcL ?_;go_invoke;refine orcS (by kernel_rfl) ?_
 simp only [zi,Nat.reduceAdd];subst hI;unfold zU at hr;simp only at hr;simp only [nrmA,nrmB,nrlB,reduceCtorEq,HO.abs.injEq,Gh.rq.injEq,Rq.mk.injEq];have hdn:(yG ⟨ln,p,⟨m,tg,hm,hf,hl⟩,le,none,true,out⟩)=yG ⟨ln,p,⟨m,tg,hm,hf,hl⟩,le,none,true,out⟩:=rfl
 by_cases q1:p=0
 · rw [if_pos q1] at hr
   by_cases q2:s=[]
   · rw [if_pos q2] at hr
     simp only [Prod.mk.injEq] at hr;obtain⟨rfl,rfl⟩:=hr
     (repeat' (first|refine ja ?_ ?_|intro _))<;>first|omega|exact jb|exact jc ‹False›|skip
     all_goals first|omega|rfl|(exfalso;exact ‹¬ s=[]› q2)|trace_state
   rw [if_neg q2] at hr
   have hbg:(sG ⟨ln,p,⟨m,tg,hm,hf,hl⟩,le,none,true,out⟩ s,(begM s).1)=(rq,rc):=by
    rw [← hr];unfold sG
    by_cases c0:(begM s).1=0
    · rw [if_pos c0,if_pos c0,c0]
    · rw [if_neg c0,if_neg c0]
      by_cases c1:(begM s).1=11
      · rw [if_pos c1,if_pos c1,c1]
      · rw [if_neg c1,if_neg c1]
   simp only [Prod.mk.injEq] at hbg
   (repeat' (first|refine ja ?_ ?_|intro _))<;>first|omega|exact jb|exact jc ‹False›|skip
   all_goals first|omega|exact hbg.1|exact hbg.2|exact⟨rfl,hs⟩|rfl|(exfalso;exact q2 ‹s=[]›)|(simp only [vT];done)|exact hs|trace_state
 · rw [if_neg q1] at hr
   by_cases q2:s=[]
   · rw [if_pos q2] at hr
     (repeat' (first|refine ja ?_ ?_|intro _))<;>first|omega|exact jb|exact jc ‹False›|skip
     all_goals first|omega|(rw [hr];done)|(rw [hr])|rfl|exact hfs0|exact hf1|(exact(hf2 _ ‹_›).1)|(exact(hf2 _ ‹_›).2)|(exfalso;exact ‹¬ s=[]› q2)|trace_state
   rw [if_neg q2] at hr
   by_cases q3:hf.length=16
   · rw [if_pos q3] at hr
     simp only [Prod.mk.injEq] at hr;obtain⟨rfl,rfl⟩:=hr
     (repeat' (first|refine ja ?_ ?_|intro _))<;>first|omega|exact jb|exact jc ‹False›|skip
     all_goals first|omega|rfl|(exfalso;exact q2 ‹s=[]›)|trace_state
   · rw [if_neg q3] at hr
     simp only [Prod.mk.injEq] at hr;obtain⟨rfl,rfl⟩:=hr
     (repeat' (first|refine ja ?_ ?_|intro _))<;>first|omega|exact jb|exact jc ‹False›|skip
     all_goals first|omega|rfl|exact hs|(simp only [jh,ji];omega)|(exfalso;exact q2 ‹s=[]›)|trace_state
theorem znC (ln:Ln) (p:Int) (m tg:Str) (hm:Int) (hf:List Fld) (hl le:Int) (out:List Evt) (s:Str) (hneed:vT ⟨ln,p,⟨m,tg,hm,hf,hl⟩,le,none,false,out⟩∧rqFs ⟨ln,p,⟨m,tg,hm,hf,hl⟩,le,none,false,out⟩∧s.length≤1000000):Spc Tryz.prog 122 [.v (.one (.ptr 0 0)),.v (.one (.p (.str s)))] [.abs (.rq ⟨ln,p,⟨m,tg,hm,hf,hl⟩,le,none,false,out⟩)] (.ret (.v (.one (.p (.int .i64 ((zU ⟨ln,p,⟨m,tg,hm,hf,hl⟩,le,none,false,out⟩ s).2)))))) [.abs (.rq (((zU ⟨ln,p,⟨m,tg,hm,hf,hl⟩,le,none,false,out⟩ s).1)))]:=by
 exact absurd hneed.1 (fun h=>by unfold vT at h;cases h)
theorem znz (ln:Ln) (p:Int) (m tg:Str) (hm:Int) (hf:List Fld) (hl le:Int) (ch:Ch) (out:List Evt) (s:Str) (hneed:vT ⟨ln,p,⟨m,tg,hm,hf,hl⟩,le,some ch,true,out⟩∧rqFs ⟨ln,p,⟨m,tg,hm,hf,hl⟩,le,some ch,true,out⟩∧s.length≤1000000):Spc Tryz.prog 122 [.v (.one (.ptr 0 0)),.v (.one (.p (.str s)))] [.abs (.rq ⟨ln,p,⟨m,tg,hm,hf,hl⟩,le,some ch,true,out⟩)] (.ret (.v (.one (.p (.int .i64 ((zU ⟨ln,p,⟨m,tg,hm,hf,hl⟩,le,some ch,true,out⟩ s).2)))))) [.abs (.rq (((zU ⟨ln,p,⟨m,tg,hm,hf,hl⟩,le,some ch,true,out⟩ s).1)))]:=by
 obtain⟨-,hfs,hs⟩:=hneed;have hfs0:=hfs;obtain⟨hfs,hfw⟩:=hfs;simp only at hfs hfw;obtain⟨hf1,hf2⟩:=hfs;generalize hr:zU ⟨ln,p,⟨m,tg,hm,hf,hl⟩,le,some ch,true,out⟩ s=r;obtain⟨rq,rc⟩:=r
 refine spH Tryz.func122 (by kernel_rfl) { cfgQ with seam:=[],keep:=some [0,1,4,5,6]} [WS,WR,zjC,zjB,ze8,ze7] (by kernel_rfl) ?_
 intro I X hI hX
 refine orcL ?_;go_invoke;refine orcS (by kernel_rfl) ?_
 simp only [zi,Nat.reduceAdd];subst hI;unfold zU at hr;simp only at hr;simp only [nrmA,nrmB,nrlB,reduceCtorEq,HO.abs.injEq,Gh.rq.injEq,Rq.mk.injEq];have hdn:(yG ⟨ln,p,⟨m,tg,hm,hf,hl⟩,le,some ch,true,out⟩)=yG ⟨ln,p,⟨m,tg,hm,hf,hl⟩,le,some ch,true,out⟩:=rfl
 by_cases q1:p=0
 · rw [if_pos q1] at hr
   by_cases q2:s=[]
   · rw [if_pos q2] at hr
     simp only [Prod.mk.injEq] at hr;obtain⟨rfl,rfl⟩:=hr
     (repeat' (first|refine ja ?_ ?_|intro _))<;>first|omega|exact jb|exact jc ‹False›|skip
     all_goals first|omega|rfl|(exfalso;exact ‹¬ s=[]› q2)|trace_state
   rw [if_neg q2] at hr
   have hbg:(sG ⟨ln,p,⟨m,tg,hm,hf,hl⟩,le,some ch,true,out⟩ s,(begM s).1)=(rq,rc):=by
    rw [← hr];unfold sG
    by_cases c0:(begM s).1=0
    · rw [if_pos c0,if_pos c0,c0]
    · rw [if_neg c0,if_neg c0]
      by_cases c1:(begM s).1=11
      · rw [if_pos c1,if_pos c1,c1]
      · rw [if_neg c1,if_neg c1]
   simp only [Prod.mk.injEq] at hbg
   (repeat' (first|refine ja ?_ ?_|intro _))<;>first|omega|exact jb|exact jc ‹False›|skip
   all_goals first|omega|exact hbg.1|exact hbg.2|exact⟨rfl,hs⟩|rfl|(exfalso;exact q2 ‹s=[]›)|(simp only [vT];done)|exact hs|trace_state
 · rw [if_neg q1] at hr
   by_cases q2:s=[]
   · rw [if_pos q2] at hr
     (repeat' (first|refine ja ?_ ?_|intro _))<;>first|omega|exact jb|exact jc ‹False›|skip
     all_goals first|omega|(rw [hr];done)|(rw [hr])|rfl|exact hfs0|exact hf1|(exact(hf2 _ ‹_›).1)|(exact(hf2 _ ‹_›).2)|(exfalso;exact ‹¬ s=[]› q2)|trace_state
   rw [if_neg q2] at hr
   by_cases q3:hf.length=16
   · rw [if_pos q3] at hr
     simp only [Prod.mk.injEq] at hr;obtain⟨rfl,rfl⟩:=hr
     (repeat' (first|refine ja ?_ ?_|intro _))<;>first|omega|exact jb|exact jc ‹False›|skip
     all_goals first|omega|rfl|(exfalso;exact q2 ‹s=[]›)|trace_state
   · rw [if_neg q3] at hr
     simp only [Prod.mk.injEq] at hr;obtain⟨rfl,rfl⟩:=hr
     (repeat' (first|refine ja ?_ ?_|intro _))<;>first|omega|exact jb|exact jc ‹False›|skip
     all_goals first|omega|rfl|exact hs|(simp only [jh,ji];omega)|(exfalso;exact q2 ‹s=[]›)|trace_state
theorem znA (ln:Ln) (p:Int) (m tg:Str) (hm:Int) (hf:List Fld) (hl le:Int) (ch:Ch) (out:List Evt) (s:Str) (hneed:vT ⟨ln,p,⟨m,tg,hm,hf,hl⟩,le,some ch,false,out⟩∧rqFs ⟨ln,p,⟨m,tg,hm,hf,hl⟩,le,some ch,false,out⟩∧s.length≤1000000):Spc Tryz.prog 122 [.v (.one (.ptr 0 0)),.v (.one (.p (.str s)))] [.abs (.rq ⟨ln,p,⟨m,tg,hm,hf,hl⟩,le,some ch,false,out⟩)] (.ret (.v (.one (.p (.int .i64 ((zU ⟨ln,p,⟨m,tg,hm,hf,hl⟩,le,some ch,false,out⟩ s).2)))))) [.abs (.rq (((zU ⟨ln,p,⟨m,tg,hm,hf,hl⟩,le,some ch,false,out⟩ s).1)))]:=by
 exact absurd hneed.1 (fun h=>by unfold vT at h;cases h)
def Wx (I:Alg):KU
 |[.v (.one (.ptr 0 0)),.v (.one (.p (.str s)))],[.abs (.rq q)]=>(fun(s:Str)=>(some (.one ⟨I.hid (vT q∧rqFs q∧s.length≤1000000),(.ret (.v (.one (.p (.int .i64 (I.hid ((zU q s).2))))))),[.abs (.rq (I.hid ((zU q s).1)))]⟩):Option CT)) s
 |_,_=>none
theorem ze3:zx Tryz.prog 122 (Wx alg):=by
 intro args hp r h;unfold Wx at h;split at h<;>cases h
 rename_i s q;simp only [CT.Good,zh];intro hneed;obtain⟨ln,p,⟨m,tg,hm,hf,hl⟩,le,ck,own,out⟩:=q
 cases ck with
 | none=>cases own with
   |true=>exact znB ln p m tg hm hf hl le out s hneed
   |false=>exact znC ln p m tg hm hf hl le out s hneed
 | some ch=>cases own with
   |true=>exact znz ln p m tg hm hf hl le ch out s hneed
   |false=>exact znA ln p m tg hm hf hl le ch out s hneed
def Wv:Know Tryz.prog:=⟨122,Wx,ze3⟩
def Wu:Know Tryz.prog:=⟨122,fun I=>zu I (Wx I),zf ze3⟩
theorem zwz (k:Int) (hneed:False):Spc Tryz.prog 119 [.v (.one (.p (.val (.pointer none)))),.v (.one (.p (.int .u8 k)))] [] (.ret (.tup [.one (.p (.list .byte ([]))),.one (.p (.bool false)),.one (.p (.int .i64 0))])) []:=hneed.elim
def Qx (I:Alg):KU
 |[.v (.one (.p (.val (.pointer none)))),.v (.one (.p (.int .u8 k)))],[]=>some (.one ⟨I.hid (False),(.ret (.tup [.one (.p (.list .byte (I.hid ([])))),.one (.p (.bool false)),.one (.p (.int .i64 0))])),[]⟩)
 |_,_=>none
theorem zk5:zx Tryz.prog 119 (Qx alg):=by
 intro args hp r h;unfold Qx at h
 split at h
 · cases h;exact fun hn=>zwz _ hn
 · cases h
def Qw:Know Tryz.prog:=⟨119,Qx,zk5⟩
def Qv:Know Tryz.prog:=⟨119,fun I=>zu I (Qx I),zf zk5⟩
def rqN (q:Rq):Prop:=∃ i:Nat,i≤1000000∧RqI q i
theorem zbW (q:Rq) (s:Str):(zU q s).1.out.length≤q.out.length+2:=by
 unfold zU yG rG
 repeat' split
 all_goals(simp only [jk,jh,ji];omega)
theorem znW (ln:Ln) (p:Int) (m tg:Str) (hm:Int) (hf:List Fld) (hl le:Int) (out:List Evt) (k:Int) (hneed:rqN ⟨ln,p,⟨m,tg,hm,hf,hl⟩,le,none,true,out⟩∧0≤k∧k≤255):Spc Tryz.prog 80 [.v (.one (.ptr 0 0)),.v (.one (.p (.int .u8 k)))] [.abs (.rq ⟨ln,p,⟨m,tg,hm,hf,hl⟩,le,none,true,out⟩)] (.ret (.tup [])) [.abs (.rq ((rqF ⟨ln,p,⟨m,tg,hm,hf,hl⟩,le,none,true,out⟩ (UInt8.ofNat k.toNat))))]:=by
 obtain⟨⟨i,hi,hI0⟩,hk0,hk1⟩:=hneed;obtain⟨g1,g2,g3,g4,g5,g6,g7,g8,g9,g10⟩:=hI0;simp only at g1 g2 g3 g4 g5 g6 g7 g8 g9 g10
 have hfs:FsOk hf:=⟨by omega,fun f hm=>by have:=g6 f hm;omega⟩
 have hll:=Yg ln (UInt8.ofNat k.toNat);generalize hr:rqF ⟨ln,p,⟨m,tg,hm,hf,hl⟩,le,none,true,out⟩ (UInt8.ofNat k.toNat)=r
 refine spH Tryz.func80 (by kernel_rfl) { cfgQ with fz:=[117],keep:=some [0,1,4,5,6,7,8,9,13,62]} [sO,sN,VS,VR,Qw,Qv,zW,zV,yc,zZ,yx,yw,yE,yD,x9,xZ,WC,WB,YR,YQ,Wv,Wu] (by kernel_rfl) ?_
 intro I X hI hX
 refine orcL ?_;go_invoke;refine orcS (by kernel_rfl) ?_
 simp only [zi,Nat.reduceAdd];subst hI;unfold rqF at hr;simp only at hr;simp only [nrmA,nrmB,nrlB,reduceCtorEq,HO.abs.injEq,Gh.rq.injEq,Rq.mk.injEq];generalize UInt8.ofNat k.toNat=c at *;have hz2:lnF ⟨ln.b,ln.cr,ln.code⟩ c=lnF ln c:=rfl;simp only [hz2];clear hz2 g2
 by_cases q1:p=2
 · rw [if_pos q1] at hr
   have h9:=g9 q1
   by_cases q2:le - 1=0
   · rw [if_pos q2] at hr
     subst hr
     have q3:le=1:=by omega
     subst q3
     (repeat' (first|refine ja ?_ ?_|intro _))<;>first|omega|exact jb|exact jc ‹False›|skip
     all_goals first|omega|rfl|(unfold zC;simp;omega)|(unfold zC;simp only;omega)|trace_state
   · rw [if_neg q2] at hr
     subst hr
     (repeat' (first|refine ja ?_ ?_|intro _))<;>first|omega|exact jb|exact jc ‹False›|skip
     all_goals first|omega|rfl|(unfold zC;simp;omega)|(unfold zC;simp only;omega)|trace_state
 rw [if_neg q1] at hr
 by_cases q4:p=3
 · exact absurd rfl (g3 q4)
 rw [if_neg q4] at hr
 by_cases q8:p=0∨p=1
 · rw [if_pos q8] at hr
   have hl: ∀ (l:Ln) (s:Str),zU ⟨⟨l.b,l.cr,l.code⟩,p,⟨m,tg,hm,hf,hl⟩,le,none,true,out⟩ s=zU ⟨l,p,⟨m,tg,hm,hf,hl⟩,le,none,true,out⟩ s:=fun l s=>rfl;simp only [hl];clear hl;generalize lnF ln c=z at *;obtain⟨l2,s,is,e⟩:=z;simp only at hr hll ⊢;have hlo:(zU ⟨l2,p,⟨m,tg,hm,hf,hl⟩,le,none,true,out⟩ s).1.out.length≤out.length+2:=zbW _ _;generalize zU ⟨l2,p,⟨m,tg,hm,hf,hl⟩,le,none,true,out⟩ s=y at *;obtain⟨y,ye⟩:=y;simp only at hr hlo ⊢
   by_cases q5:e=0
   · rw [if_neg (fun h=>h q5)] at hr
     cases is with
     | true=>
       rw [if_pos rfl] at hr
       by_cases q6:ye=0
       · rw [if_neg (fun h=>h q6)] at hr
         subst hr
         (repeat' (first|refine ja ?_ ?_|intro _))<;>first|omega|exact jb|exact jc ‹False›|skip
         all_goals first|omega|rfl|contradiction|exact⟨rfl,⟨hfs,by simp only;omega⟩,by omega⟩|(simp only [vT];done)|exact hfs.1|(exact(hfs.2 _ ‹_›).1)|(exact(hfs.2 _ ‹_›).2)|(unfold zC;omega)|(simp only;omega)|trace_state
       · rw [if_pos q6] at hr
         subst hr
         (repeat' (first|refine ja ?_ ?_|intro _))<;>first|omega|exact jb|exact jc ‹False›|skip
         all_goals first|omega|rfl|contradiction|exact⟨rfl,⟨hfs,by simp only;omega⟩,by omega⟩|(simp only [vT];done)|exact hfs.1|(exact(hfs.2 _ ‹_›).1)|(exact(hfs.2 _ ‹_›).2)|(unfold zC;omega)|(simp only;omega)|trace_state
     | false=>
       rw [if_neg Bool.false_ne_true] at hr;subst hr
       (repeat' (first|refine ja ?_ ?_|intro _))<;>first|omega|exact jb|exact jc ‹False›|skip
       all_goals first|omega|rfl|contradiction|trace_state
   · rw [if_pos q5] at hr
     subst hr
     (repeat' (first|refine ja ?_ ?_|intro _))<;>first|omega|exact jb|exact jc ‹False›|skip
     all_goals first|omega|rfl|contradiction|(unfold zC;simp only;omega)|trace_state
 rw [if_neg q8] at hr;subst hr
 (repeat' (first|refine ja ?_ ?_|intro _))<;>first|omega|exact jb|exact jc ‹False›|skip
 all_goals first|omega|rfl|contradiction|trace_state
theorem znX (ln:Ln) (p:Int) (m tg:Str) (hm:Int) (hf:List Fld) (hl le:Int) (out:List Evt) (k:Int) (hneed:rqN ⟨ln,p,⟨m,tg,hm,hf,hl⟩,le,none,false,out⟩∧0≤k∧k≤255):Spc Tryz.prog 80 [.v (.one (.ptr 0 0)),.v (.one (.p (.int .u8 k)))] [.abs (.rq ⟨ln,p,⟨m,tg,hm,hf,hl⟩,le,none,false,out⟩)] (.ret (.tup [])) [.abs (.rq ((rqF ⟨ln,p,⟨m,tg,hm,hf,hl⟩,le,none,false,out⟩ (UInt8.ofNat k.toNat))))]:=by
 obtain⟨⟨i,hi,hI0⟩,hk0,hk1⟩:=hneed;obtain⟨g1,g2,g3,g4,g5,g6,g7,g8,g9,g10⟩:=hI0;simp only at g1 g2 g3 g4 g5 g6 g7 g8 g9 g10
 have hfs:FsOk hf:=⟨by omega,fun f hm=>by have:=g6 f hm;omega⟩
 have hll:=Yg ln (UInt8.ofNat k.toNat);generalize hr:rqF ⟨ln,p,⟨m,tg,hm,hf,hl⟩,le,none,false,out⟩ (UInt8.ofNat k.toNat)=r
 refine spH Tryz.func80 (by kernel_rfl) { cfgQ with fz:=[117],keep:=some [0,1,4,5,6,7,8,9,13,62]} [sO,sN,VS,VR,Qw,Qv,zW,zV,yc,zZ,yx,yw,yE,yD,x9,xZ,WC,WB,YR,YQ,Wv,Wu] (by kernel_rfl) ?_
 intro I X hI hX
 refine orcL ?_;go_invoke;refine orcS (by kernel_rfl) ?_
 simp only [zi,Nat.reduceAdd];subst hI;unfold rqF at hr;simp only at hr;simp only [nrmA,nrmB,nrlB,reduceCtorEq,HO.abs.injEq,Gh.rq.injEq,Rq.mk.injEq];generalize UInt8.ofNat k.toNat=c at *;have hz2:lnF ⟨ln.b,ln.cr,ln.code⟩ c=lnF ln c:=rfl;simp only [hz2];clear hz2 g2
 by_cases q1:p=2
 · rw [if_pos q1] at hr
   have h9:=g9 q1
   by_cases q2:le - 1=0
   · rw [if_pos q2] at hr
     subst hr
     have q3:le=1:=by omega
     subst q3
     (repeat' (first|refine ja ?_ ?_|intro _))<;>first|omega|exact jb|exact jc ‹False›|skip
     all_goals first|omega|rfl|(unfold zC;simp;omega)|(unfold zC;simp only;omega)|trace_state
   · rw [if_neg q2] at hr
     subst hr
     (repeat' (first|refine ja ?_ ?_|intro _))<;>first|omega|exact jb|exact jc ‹False›|skip
     all_goals first|omega|rfl|(unfold zC;simp;omega)|(unfold zC;simp only;omega)|trace_state
 rw [if_neg q1] at hr
 by_cases q4:p=3
 · exact absurd rfl (g3 q4)
 rw [if_neg q4] at hr
 by_cases q8:p=0∨p=1
 · exact absurd (g4 q8) (by simp)
 rw [if_neg q8] at hr;subst hr
 (repeat' (first|refine ja ?_ ?_|intro _))<;>first|omega|exact jb|exact jc ‹False›|skip
 all_goals first|omega|rfl|contradiction|trace_state
theorem znU (ln:Ln) (p:Int) (m tg:Str) (hm:Int) (hf:List Fld) (hl le:Int) (ch:Ch) (out:List Evt) (k:Int) (hneed:rqN ⟨ln,p,⟨m,tg,hm,hf,hl⟩,le,some ch,true,out⟩∧0≤k∧k≤255):Spc Tryz.prog 80 [.v (.one (.ptr 0 0)),.v (.one (.p (.int .u8 k)))] [.abs (.rq ⟨ln,p,⟨m,tg,hm,hf,hl⟩,le,some ch,true,out⟩)] (.ret (.tup [])) [.abs (.rq ((rqF ⟨ln,p,⟨m,tg,hm,hf,hl⟩,le,some ch,true,out⟩ (UInt8.ofNat k.toNat))))]:=by
 obtain⟨⟨i,hi,hI0⟩,hk0,hk1⟩:=hneed;obtain⟨g1,g2,g3,g4,g5,g6,g7,g8,g9,g10⟩:=hI0;simp only at g1 g2 g3 g4 g5 g6 g7 g8 g9 g10
 have hfs:FsOk hf:=⟨by omega,fun f hm=>by have:=g6 f hm;omega⟩
 have hll:=Yg ln (UInt8.ofNat k.toNat);generalize hr:rqF ⟨ln,p,⟨m,tg,hm,hf,hl⟩,le,some ch,true,out⟩ (UInt8.ofNat k.toNat)=r
 refine spH Tryz.func80 (by kernel_rfl) { cfgQ with fz:=[117],keep:=some [0,1,4,5,6,7,8,9,13,62]} [sO,sN,VS,VR,Qw,Qv,zW,zV,yc,zZ,yx,yw,yE,yD,x9,xZ,WC,WB,YR,YQ,Wv,Wu] (by kernel_rfl) ?_
 intro I X hI hX
 refine orcL ?_;go_invoke;refine orcS (by kernel_rfl) ?_
 simp only [zi,Nat.reduceAdd];subst hI;unfold rqF at hr;simp only at hr;simp only [nrmA,nrmB,nrlB,reduceCtorEq,HO.abs.injEq,Gh.rq.injEq,Rq.mk.injEq];generalize UInt8.ofNat k.toNat=c at *;have hni:=zla (g2 ch rfl) hi;have hz:chF ⟨⟨ch.ln.b,ch.ln.cr,ch.ln.code⟩,ch.pos,ch.left,ch.all,ch.tails,ch.code⟩ c=chF ch c:=rfl;have hck:ckOf ⟨ln,p,⟨m,tg,hm,hf,hl⟩,le,some ch,true,out⟩=ch:=rfl;simp only [hz];rw [hck] at hr;clear hz hck;have hz2:lnF ⟨ln.b,ln.cr,ln.code⟩ c=lnF ln c:=rfl;simp only [hz2];clear hz2 g2
 by_cases q1:p=2
 · rw [if_pos q1] at hr
   have h9:=g9 q1
   by_cases q2:le - 1=0
   · rw [if_pos q2] at hr
     subst hr
     have q3:le=1:=by omega
     subst q3
     (repeat' (first|refine ja ?_ ?_|intro _))<;>first|omega|exact jb|exact jc ‹False›|skip
     all_goals first|omega|rfl|(unfold zC;simp;omega)|(unfold zC;simp only;omega)|trace_state
   · rw [if_neg q2] at hr
     subst hr
     (repeat' (first|refine ja ?_ ?_|intro _))<;>first|omega|exact jb|exact jc ‹False›|skip
     all_goals first|omega|rfl|(unfold zC;simp;omega)|(unfold zC;simp only;omega)|trace_state
 rw [if_neg q1] at hr
 by_cases q4:p=3
 · rw [if_pos q4] at hr
   generalize chF ch c=z at *;obtain⟨⟨⟨zb,zc,zo⟩,z1,z2,z3,z4,z5⟩,d,ov,e⟩:=z;simp only at hr ⊢;have hd0:d.length=0↔d=[]:=List.length_eq_zero_iff
   by_cases q5:e=0
   · rw [if_neg (fun h=>h q5)] at hr
     cases ov with
     | true=>
       rw [if_pos rfl] at hr
       by_cases q6:d=[]
       · rw [if_neg (fun h=>h q6)] at hr
         have q7:=hd0.2 q6;subst hr
         (repeat' (first|refine ja ?_ ?_|intro _))<;>first|omega|exact jb|exact jc ‹False›|skip
         all_goals first|omega|rfl|(unfold zC;simp;omega)|(unfold zC;simp only;omega)|contradiction|exact⟨⟨hk0,hk1⟩,hni⟩|trace_state
       · rw [if_pos q6] at hr
         have q7: ¬ d.length=0:=fun h=>q6 (hd0.1 h);subst hr
         (repeat' (first|refine ja ?_ ?_|intro _))<;>first|omega|exact jb|exact jc ‹False›|skip
         all_goals first|omega|rfl|(unfold zC;simp;omega)|(unfold zC;simp only;omega)|contradiction|exact⟨⟨hk0,hk1⟩,hni⟩|trace_state
     | false=>
       rw [if_neg Bool.false_ne_true] at hr
       by_cases q6:d=[]
       · rw [if_neg (fun h=>h q6)] at hr
         have q7:=hd0.2 q6;subst hr
         (repeat' (first|refine ja ?_ ?_|intro _))<;>first|omega|exact jb|exact jc ‹False›|skip
         all_goals first|omega|rfl|(unfold zC;simp;omega)|(unfold zC;simp only;omega)|contradiction|exact⟨⟨hk0,hk1⟩,hni⟩|trace_state
       · rw [if_pos q6] at hr
         have q7: ¬ d.length=0:=fun h=>q6 (hd0.1 h);subst hr
         (repeat' (first|refine ja ?_ ?_|intro _))<;>first|omega|exact jb|exact jc ‹False›|skip
         all_goals first|omega|rfl|(unfold zC;simp;omega)|(unfold zC;simp only;omega)|contradiction|exact⟨⟨hk0,hk1⟩,hni⟩|trace_state
   · rw [if_pos q5] at hr
     subst hr
     (repeat' (first|refine ja ?_ ?_|intro _))<;>first|omega|exact jb|exact jc ‹False›|skip
     all_goals first|omega|rfl|(unfold zC;simp;omega)|(unfold zC;simp only;omega)|contradiction|exact⟨⟨hk0,hk1⟩,hni⟩|trace_state
 rw [if_neg q4] at hr
 by_cases q8:p=0∨p=1
 · rw [if_pos q8] at hr
   have hl: ∀ (l:Ln) (s:Str),zU ⟨⟨l.b,l.cr,l.code⟩,p,⟨m,tg,hm,hf,hl⟩,le,some ch,true,out⟩ s=zU ⟨l,p,⟨m,tg,hm,hf,hl⟩,le,some ch,true,out⟩ s:=fun l s=>rfl;simp only [hl];clear hl;generalize lnF ln c=z at *;obtain⟨l2,s,is,e⟩:=z;simp only at hr hll ⊢;have hlo:(zU ⟨l2,p,⟨m,tg,hm,hf,hl⟩,le,some ch,true,out⟩ s).1.out.length≤out.length+2:=zbW _ _;generalize zU ⟨l2,p,⟨m,tg,hm,hf,hl⟩,le,some ch,true,out⟩ s=y at *;obtain⟨y,ye⟩:=y;simp only at hr hlo ⊢
   by_cases q5:e=0
   · rw [if_neg (fun h=>h q5)] at hr
     cases is with
     | true=>
       rw [if_pos rfl] at hr
       by_cases q6:ye=0
       · rw [if_neg (fun h=>h q6)] at hr
         subst hr
         (repeat' (first|refine ja ?_ ?_|intro _))<;>first|omega|exact jb|exact jc ‹False›|skip
         all_goals first|omega|rfl|contradiction|exact⟨rfl,⟨hfs,by simp only;omega⟩,by omega⟩|(simp only [vT];done)|exact hfs.1|(exact(hfs.2 _ ‹_›).1)|(exact(hfs.2 _ ‹_›).2)|(unfold zC;omega)|(simp only;omega)|trace_state
       · rw [if_pos q6] at hr
         subst hr
         (repeat' (first|refine ja ?_ ?_|intro _))<;>first|omega|exact jb|exact jc ‹False›|skip
         all_goals first|omega|rfl|contradiction|exact⟨rfl,⟨hfs,by simp only;omega⟩,by omega⟩|(simp only [vT];done)|exact hfs.1|(exact(hfs.2 _ ‹_›).1)|(exact(hfs.2 _ ‹_›).2)|(unfold zC;omega)|(simp only;omega)|trace_state
     | false=>
       rw [if_neg Bool.false_ne_true] at hr;subst hr
       (repeat' (first|refine ja ?_ ?_|intro _))<;>first|omega|exact jb|exact jc ‹False›|skip
       all_goals first|omega|rfl|contradiction|trace_state
   · rw [if_pos q5] at hr
     subst hr
     (repeat' (first|refine ja ?_ ?_|intro _))<;>first|omega|exact jb|exact jc ‹False›|skip
     all_goals first|omega|rfl|contradiction|(unfold zC;simp only;omega)|trace_state
 rw [if_neg q8] at hr;subst hr
 (repeat' (first|refine ja ?_ ?_|intro _))<;>first|omega|exact jb|exact jc ‹False›|skip
 all_goals first|omega|rfl|contradiction|trace_state
theorem znV (ln:Ln) (p:Int) (m tg:Str) (hm:Int) (hf:List Fld) (hl le:Int) (ch:Ch) (out:List Evt) (k:Int) (hneed:rqN ⟨ln,p,⟨m,tg,hm,hf,hl⟩,le,some ch,false,out⟩∧0≤k∧k≤255):Spc Tryz.prog 80 [.v (.one (.ptr 0 0)),.v (.one (.p (.int .u8 k)))] [.abs (.rq ⟨ln,p,⟨m,tg,hm,hf,hl⟩,le,some ch,false,out⟩)] (.ret (.tup [])) [.abs (.rq ((rqF ⟨ln,p,⟨m,tg,hm,hf,hl⟩,le,some ch,false,out⟩ (UInt8.ofNat k.toNat))))]:=by
 obtain⟨⟨i,hi,hI0⟩,hk0,hk1⟩:=hneed;obtain⟨g1,g2,g3,g4,g5,g6,g7,g8,g9,g10⟩:=hI0;simp only at g1 g2 g3 g4 g5 g6 g7 g8 g9 g10
 have hfs:FsOk hf:=⟨by omega,fun f hm=>by have:=g6 f hm;omega⟩
 have hll:=Yg ln (UInt8.ofNat k.toNat);generalize hr:rqF ⟨ln,p,⟨m,tg,hm,hf,hl⟩,le,some ch,false,out⟩ (UInt8.ofNat k.toNat)=r
 refine spH Tryz.func80 (by kernel_rfl) { cfgQ with fz:=[117],keep:=some [0,1,4,5,6,7,8,9,13,62]} [sO,sN,VS,VR,Qw,Qv,zW,zV,yc,zZ,yx,yw,yE,yD,x9,xZ,WC,WB,YR,YQ,Wv,Wu] (by kernel_rfl) ?_
 intro I X hI hX
 refine orcL ?_;go_invoke;refine orcS (by kernel_rfl) ?_
 simp only [zi,Nat.reduceAdd];subst hI;unfold rqF at hr;simp only at hr;simp only [nrmA,nrmB,nrlB,reduceCtorEq,HO.abs.injEq,Gh.rq.injEq,Rq.mk.injEq];generalize UInt8.ofNat k.toNat=c at *;have hni:=zla (g2 ch rfl) hi;have hz:chF ⟨⟨ch.ln.b,ch.ln.cr,ch.ln.code⟩,ch.pos,ch.left,ch.all,ch.tails,ch.code⟩ c=chF ch c:=rfl;have hck:ckOf ⟨ln,p,⟨m,tg,hm,hf,hl⟩,le,some ch,false,out⟩=ch:=rfl;simp only [hz];rw [hck] at hr;clear hz hck;have hz2:lnF ⟨ln.b,ln.cr,ln.code⟩ c=lnF ln c:=rfl;simp only [hz2];clear hz2 g2
 by_cases q1:p=2
 · rw [if_pos q1] at hr
   have h9:=g9 q1
   by_cases q2:le - 1=0
   · rw [if_pos q2] at hr
     subst hr
     have q3:le=1:=by omega
     subst q3
     (repeat' (first|refine ja ?_ ?_|intro _))<;>first|omega|exact jb|exact jc ‹False›|skip
     all_goals first|omega|rfl|(unfold zC;simp;omega)|(unfold zC;simp only;omega)|trace_state
   · rw [if_neg q2] at hr
     subst hr
     (repeat' (first|refine ja ?_ ?_|intro _))<;>first|omega|exact jb|exact jc ‹False›|skip
     all_goals first|omega|rfl|(unfold zC;simp;omega)|(unfold zC;simp only;omega)|trace_state
 rw [if_neg q1] at hr
 by_cases q4:p=3
 · rw [if_pos q4] at hr
   generalize chF ch c=z at *;obtain⟨⟨⟨zb,zc,zo⟩,z1,z2,z3,z4,z5⟩,d,ov,e⟩:=z;simp only at hr ⊢;have hd0:d.length=0↔d=[]:=List.length_eq_zero_iff
   by_cases q5:e=0
   · rw [if_neg (fun h=>h q5)] at hr
     cases ov with
     | true=>
       rw [if_pos rfl] at hr
       by_cases q6:d=[]
       · rw [if_neg (fun h=>h q6)] at hr
         have q7:=hd0.2 q6;subst hr
         (repeat' (first|refine ja ?_ ?_|intro _))<;>first|omega|exact jb|exact jc ‹False›|skip
         all_goals first|omega|rfl|(unfold zC;simp;omega)|(unfold zC;simp only;omega)|contradiction|exact⟨⟨hk0,hk1⟩,hni⟩|trace_state
       · rw [if_pos q6] at hr
         have q7: ¬ d.length=0:=fun h=>q6 (hd0.1 h);subst hr
         (repeat' (first|refine ja ?_ ?_|intro _))<;>first|omega|exact jb|exact jc ‹False›|skip
         all_goals first|omega|rfl|(unfold zC;simp;omega)|(unfold zC;simp only;omega)|contradiction|exact⟨⟨hk0,hk1⟩,hni⟩|trace_state
     | false=>
       rw [if_neg Bool.false_ne_true] at hr
       by_cases q6:d=[]
       · rw [if_neg (fun h=>h q6)] at hr
         have q7:=hd0.2 q6;subst hr
         (repeat' (first|refine ja ?_ ?_|intro _))<;>first|omega|exact jb|exact jc ‹False›|skip
         all_goals first|omega|rfl|(unfold zC;simp;omega)|(unfold zC;simp only;omega)|contradiction|exact⟨⟨hk0,hk1⟩,hni⟩|trace_state
       · rw [if_pos q6] at hr
         have q7: ¬ d.length=0:=fun h=>q6 (hd0.1 h);subst hr
         (repeat' (first|refine ja ?_ ?_|intro _))<;>first|omega|exact jb|exact jc ‹False›|skip
         all_goals first|omega|rfl|(unfold zC;simp;omega)|(unfold zC;simp only;omega)|contradiction|exact⟨⟨hk0,hk1⟩,hni⟩|trace_state
   · rw [if_pos q5] at hr
     subst hr
     (repeat' (first|refine ja ?_ ?_|intro _))<;>first|omega|exact jb|exact jc ‹False›|skip
     all_goals first|omega|rfl|(unfold zC;simp;omega)|(unfold zC;simp only;omega)|contradiction|exact⟨⟨hk0,hk1⟩,hni⟩|trace_state
 rw [if_neg q4] at hr
 by_cases q8:p=0∨p=1
 · exact absurd (g4 q8) (by simp)
 rw [if_neg q8] at hr;subst hr
 (repeat' (first|refine ja ?_ ?_|intro _))<;>first|omega|exact jb|exact jc ‹False›|skip
 all_goals first|omega|rfl|contradiction|trace_state
def WI (I:Alg):KU
 |[.v (.one (.ptr 0 0)),.v (.one (.p (.int .u8 k)))],[.abs (.rq q)]=>some (.one ⟨I.hid (rqN q∧0≤k∧k≤255),(.ret (.tup [])),[.abs (.rq (I.hid (rqF q (UInt8.ofNat k.toNat))))]⟩)
 |_,_=>none
theorem zfb:zx Tryz.prog 80 (WI alg):=by
 intro args hp r h;unfold WI at h;split at h<;>cases h
 rename_i k q;simp only [CT.Good,zh];intro hneed;obtain⟨ln,p,⟨m,tg,hm,hf,hl⟩,le,ck,own,out⟩:=q
 cases ck with
 | none=>cases own with
   |true=>exact znW ln p m tg hm hf hl le out k hneed
   |false=>exact znX ln p m tg hm hf hl le out k hneed
 | some ch=>cases own with
   |true=>exact znU ln p m tg hm hf hl le ch out k hneed
   |false=>exact znV ln p m tg hm hf hl le ch out k hneed
def um:Know Tryz.prog:=⟨80,WI,zfb⟩
def ul:Know Tryz.prog:=⟨80,fun I=>zu I (WI I),zf zfb⟩
end Go.Proofs.YtkjepecoodjbmaaGreatDoor

namespace Go.Proofs.YtkjepecoodjbmaaGreatDoor
open Go Go.Sep Go.Ab
set_option maxRecDepth 100000
theorem zlI (q:Rq):zF (yG q).1.out≤zF q.out:=by
 unfold yG rG
 repeat' split
 all_goals simp [zF,evH,evE]
theorem zlG (q:Rq) (s:Str):zF (zU q s).1.out≤zF q.out:=by
 have hd:=zlI q;unfold zU
 repeat' split
 all_goals first|exact hd|exact jL _
theorem zak (q:Rq) (c:UInt8):zF (rqF q c).out≤zF q.out+1:=by
 have hl:=zlG { q with ln:=(lnF q.ln c).1} (lnF q.ln c).2.1
 have hd:=(zsy (s:=ckOf q) (c:=c)).1;unfold rqF
 split
 · split
   · simp only [rG,yu,yZ,evB,evE,jh,ji];omega
   · simp only [yu,yZ,evB,jh,ji];omega
 split
 · split
   · simp only [vz,yu,yZ,evF,ji];omega
   split
   · simp only [rG,yu,yZ,evE,ji]
     split
     · simp only [yu,yZ,evB];omega
     · omega
   · show zF (if(chF (ckOf q) c).2.1≠[] then q.out++[evB (chF (ckOf q) c).2.1] else q.out)≤_
     split
     · simp only [yu,yZ,evB];omega
     · omega
 split
 · split
   · simp only [vz,yu,yZ,evF,ji];omega
   split
   · split
     · simp only [vz,yu,yZ,evF,ji];simp only at hl;omega
     · simp only at hl;omega
   · exact Nat.le_succ _
 · exact Nat.le_succ _
def rqAt (q:Rq) (b:Str) (n i:Nat):Prop:=RqI (rF { q with out:=[]} (b.take i)) (n+i)∧zF (rF { q with out:=[]} (b.take i)).out≤i
theorem zjE {q:Rq} {n:Nat} (h:RqI { q with out:=[]} n) (b:Str):rqAt q b n 0:=⟨h,by simp [rF,zF]⟩
theorem zdn (q:Rq) (b:Str) {i:Nat} (h:i<b.length):rF q (b.take (i+1))=rqF (rF q (b.take i)) (b.getD i 0):=by
 rw [show b.getD i 0=b[i] by simp [h],jB h]
 unfold rF;rw [List.foldl_append];rfl
def rqN0 (q:Rq) (b:Str):Prop:=∃ n,RqI { q with out:=[]} n∧n+b.length≤1000000
theorem znG (ln:Ln) (p:Int) (m tg:Str) (hm:Int) (hf:List Fld) (hl le:Int) (out:List Evt) (b:Str) (hneed:rqN0 ⟨ln,p,⟨m,tg,hm,hf,hl⟩,le,none,true,out⟩ b):Spc Tryz.prog 45 [.v (.one (.ptr 0 0)),.v (.one (.p (.list .byte b)))] [.abs (.rq ⟨ln,p,⟨m,tg,hm,hf,hl⟩,le,none,true,out⟩)] (.ret (.v (.one (.row 1)))) [.abs (.rq ((zO ⟨ln,p,⟨m,tg,hm,hf,hl⟩,le,none,true,out⟩ b))),.row .evt 34 ((yK (zO ⟨ln,p,⟨m,tg,hm,hf,hl⟩,le,none,true,out⟩ b).out))]:=by
 obtain⟨n,hI0,hnb⟩:=hneed;have hat:=zjE hI0 b
 refine spH Tryz.func45 (by kernel_rfl) { cfgQ with fz:=[],keep:=some [0,1,4,6,10,11,12]} [um,ul,xJ,xI] (by kernel_rfl) ?_
 intro I X hI hX
 refine orcL ?_;go_invoke;refine orcS (by kernel_rfl) ?_
 simp only [zi,Nat.reduceAdd]
 have hr:({ (⟨ln,p,⟨m,tg,hm,hf,hl⟩,le,none,true,out⟩:Rq) with out:=[]}:Rq)=(⟨ln,p,⟨m,tg,hm,hf,hl⟩,le,none,true,[]⟩:Rq):=rfl
 unfold rqAt at hat;unfold zO;rw [hr] at hat ⊢
 refine lpH hI [um,ul,xJ,xI] hX [0,1,10,11,12] (fun(g:Nat × Rq)=>match g with|(i,r)=>i≤b.length∧r=rF (⟨ln,p,⟨m,tg,hm,hf,hl⟩,le,none,true,[]⟩:Rq) (b.take i)∧RqI r (n+i)∧zF r.out≤i) (fun(g:Nat × Rq)=>match g with|(i,r)=>⟨[(0,.v (.one (.ptr 0 0))),(1,.v (.one (.p (.list .byte b)))),(10,.v (.one (.p (.list .byte b)))),(11,.v (.one (.p (.int .i64 ((I.len (α:=UInt8) b)))))),(12,.v (.one (.p (.int .i64 i))))],[.abs (.rq r)],25,none⟩) (fun(g:Nat × Rq)=>match g with|(i,r)=>b.length - i) (0,(⟨ln,p,⟨m,tg,hm,hf,hl⟩,le,none,true,[]⟩:Rq)) (by kernel_rfl) (by kernel_rfl) ?_ ?_
 · exact⟨jM _,rfl,hat.1,hat.2⟩
 rintro⟨i,⟨ln2,p2,⟨m2,t2,hm2,hf2,hl2⟩,le2,ck2,own2,out2⟩⟩ ⟨h1,h2,h3,h4⟩ A hA;simp only at hA h1 h2 h3 h4
 have hrn:i<b.length→rqN _:=fun h=>⟨n+i,by omega,h3⟩
 have hgo:i<b.length→_:=fun h=>hA (i+1,rqF ⟨ln2,p2,⟨m2,t2,hm2,hf2,hl2⟩,le2,ck2,own2,out2⟩ (b.getD i 0)) ⟨by simp only;omega,by simp only;rw [zdn _ _ h,← h2],by simp only;exact zlH h3 _,by simp only;have:=zak ⟨ln2,p2,⟨m2,t2,hm2,hf2,hl2⟩,le2,ck2,own2,out2⟩ (b.getD i 0);simp only at this;omega⟩ (by simp only;omega)
 have hend: ¬ i<b.length→_:=fun h=>h2.trans (by rw [jq (by omega)])
 rcases ck2 with _|ch2<;>rcases own2 with _|_
 · have h0:=h1
   refine orcL ?_;go_invoke;refine orcS (by kernel_rfl) ?_
   simp only [zi,Nat.reduceAdd];subst hI;simp only [nrmA,nrmB,nrlB,reduceCtorEq,HO.abs.injEq,Gh.rq.injEq,Rq.mk.injEq]
   by_cases hi:i<b.length
   · have hg:=hgo hi
     have hn:=hrn hi
     (repeat' (first|refine ja ?_ ?_|intro _))<;>first|omega|exact jb|exact jc ‹False›|skip
     all_goals first|omega|exact hg|exact hn|contradiction|(have:=(b.getD i 0).toNat_lt;omega)|trace_state
   · have hg:=hend hi
     rw [← hg];have hon:=h3.on;simp only at hon
     (repeat' (first|refine ja ?_ ?_|intro _))<;>first|omega|exact jb|exact jc ‹False›|skip
     all_goals first|omega|rfl|contradiction|exact⟨by omega,by omega⟩|trace_state
 · have h0:=h1
   refine orcL ?_;go_invoke;refine orcS (by kernel_rfl) ?_
   simp only [zi,Nat.reduceAdd];subst hI;simp only [nrmA,nrmB,nrlB,reduceCtorEq,HO.abs.injEq,Gh.rq.injEq,Rq.mk.injEq]
   by_cases hi:i<b.length
   · have hg:=hgo hi
     have hn:=hrn hi
     (repeat' (first|refine ja ?_ ?_|intro _))<;>first|omega|exact jb|exact jc ‹False›|skip
     all_goals first|omega|exact hg|exact hn|contradiction|(have:=(b.getD i 0).toNat_lt;omega)|trace_state
   · have hg:=hend hi
     rw [← hg];have hon:=h3.on;simp only at hon
     (repeat' (first|refine ja ?_ ?_|intro _))<;>first|omega|exact jb|exact jc ‹False›|skip
     all_goals first|omega|rfl|contradiction|exact⟨by omega,by omega⟩|trace_state
 · have h0:=h1
   refine orcL ?_;go_invoke;refine orcS (by kernel_rfl) ?_
   simp only [zi,Nat.reduceAdd];subst hI;simp only [nrmA,nrmB,nrlB,reduceCtorEq,HO.abs.injEq,Gh.rq.injEq,Rq.mk.injEq]
   by_cases hi:i<b.length
   · have hg:=hgo hi
     have hn:=hrn hi
     (repeat' (first|refine ja ?_ ?_|intro _))<;>first|omega|exact jb|exact jc ‹False›|skip
     all_goals first|omega|exact hg|exact hn|contradiction|(have:=(b.getD i 0).toNat_lt;omega)|trace_state
   · have hg:=hend hi
     rw [← hg];have hon:=h3.on;simp only at hon
     (repeat' (first|refine ja ?_ ?_|intro _))<;>first|omega|exact jb|exact jc ‹False›|skip
     all_goals first|omega|rfl|contradiction|exact⟨by omega,by omega⟩|trace_state
 · have h0:=h1
   refine orcL ?_;go_invoke;refine orcS (by kernel_rfl) ?_
   simp only [zi,Nat.reduceAdd];subst hI;simp only [nrmA,nrmB,nrlB,reduceCtorEq,HO.abs.injEq,Gh.rq.injEq,Rq.mk.injEq]
   by_cases hi:i<b.length
   · have hg:=hgo hi
     have hn:=hrn hi
     (repeat' (first|refine ja ?_ ?_|intro _))<;>first|omega|exact jb|exact jc ‹False›|skip
     all_goals first|omega|exact hg|exact hn|contradiction|(have:=(b.getD i 0).toNat_lt;omega)|trace_state
   · have hg:=hend hi
     rw [← hg];have hon:=h3.on;simp only at hon
     (repeat' (first|refine ja ?_ ?_|intro _))<;>first|omega|exact jb|exact jc ‹False›|skip
     all_goals first|omega|rfl|contradiction|exact⟨by omega,by omega⟩|trace_state
theorem znH (ln:Ln) (p:Int) (m tg:Str) (hm:Int) (hf:List Fld) (hl le:Int) (out:List Evt) (b:Str) (hneed:rqN0 ⟨ln,p,⟨m,tg,hm,hf,hl⟩,le,none,false,out⟩ b):Spc Tryz.prog 45 [.v (.one (.ptr 0 0)),.v (.one (.p (.list .byte b)))] [.abs (.rq ⟨ln,p,⟨m,tg,hm,hf,hl⟩,le,none,false,out⟩)] (.ret (.v (.one (.row 1)))) [.abs (.rq ((zO ⟨ln,p,⟨m,tg,hm,hf,hl⟩,le,none,false,out⟩ b))),.row .evt 34 ((yK (zO ⟨ln,p,⟨m,tg,hm,hf,hl⟩,le,none,false,out⟩ b).out))]:=by
 obtain⟨n,hI0,hnb⟩:=hneed;have hat:=zjE hI0 b
 refine spH Tryz.func45 (by kernel_rfl) { cfgQ with fz:=[],keep:=some [0,1,4,6,10,11,12]} [um,ul,xJ,xI] (by kernel_rfl) ?_
 intro I X hI hX
 refine orcL ?_;go_invoke;refine orcS (by kernel_rfl) ?_
 simp only [zi,Nat.reduceAdd]
 have hr:({ (⟨ln,p,⟨m,tg,hm,hf,hl⟩,le,none,false,out⟩:Rq) with out:=[]}:Rq)=(⟨ln,p,⟨m,tg,hm,hf,hl⟩,le,none,false,[]⟩:Rq):=rfl
 unfold rqAt at hat;unfold zO;rw [hr] at hat ⊢
 refine lpH hI [um,ul,xJ,xI] hX [0,1,10,11,12] (fun(g:Nat × Rq)=>match g with|(i,r)=>i≤b.length∧r=rF (⟨ln,p,⟨m,tg,hm,hf,hl⟩,le,none,false,[]⟩:Rq) (b.take i)∧RqI r (n+i)∧zF r.out≤i) (fun(g:Nat × Rq)=>match g with|(i,r)=>⟨[(0,.v (.one (.ptr 0 0))),(1,.v (.one (.p (.list .byte b)))),(10,.v (.one (.p (.list .byte b)))),(11,.v (.one (.p (.int .i64 ((I.len (α:=UInt8) b)))))),(12,.v (.one (.p (.int .i64 i))))],[.abs (.rq r)],25,none⟩) (fun(g:Nat × Rq)=>match g with|(i,r)=>b.length - i) (0,(⟨ln,p,⟨m,tg,hm,hf,hl⟩,le,none,false,[]⟩:Rq)) (by kernel_rfl) (by kernel_rfl) ?_ ?_
 · exact⟨jM _,rfl,hat.1,hat.2⟩
 rintro⟨i,⟨ln2,p2,⟨m2,t2,hm2,hf2,hl2⟩,le2,ck2,own2,out2⟩⟩ ⟨h1,h2,h3,h4⟩ A hA;simp only at hA h1 h2 h3 h4
 have hrn:i<b.length→rqN _:=fun h=>⟨n+i,by omega,h3⟩
 have hgo:i<b.length→_:=fun h=>hA (i+1,rqF ⟨ln2,p2,⟨m2,t2,hm2,hf2,hl2⟩,le2,ck2,own2,out2⟩ (b.getD i 0)) ⟨by simp only;omega,by simp only;rw [zdn _ _ h,← h2],by simp only;exact zlH h3 _,by simp only;have:=zak ⟨ln2,p2,⟨m2,t2,hm2,hf2,hl2⟩,le2,ck2,own2,out2⟩ (b.getD i 0);simp only at this;omega⟩ (by simp only;omega)
 have hend: ¬ i<b.length→_:=fun h=>h2.trans (by rw [jq (by omega)])
 rcases ck2 with _|ch2<;>rcases own2 with _|_
 · have h0:=h1
   refine orcL ?_;go_invoke;refine orcS (by kernel_rfl) ?_
   simp only [zi,Nat.reduceAdd];subst hI;simp only [nrmA,nrmB,nrlB,reduceCtorEq,HO.abs.injEq,Gh.rq.injEq,Rq.mk.injEq]
   by_cases hi:i<b.length
   · have hg:=hgo hi
     have hn:=hrn hi
     (repeat' (first|refine ja ?_ ?_|intro _))<;>first|omega|exact jb|exact jc ‹False›|skip
     all_goals first|omega|exact hg|exact hn|contradiction|(have:=(b.getD i 0).toNat_lt;omega)|trace_state
   · have hg:=hend hi
     rw [← hg];have hon:=h3.on;simp only at hon
     (repeat' (first|refine ja ?_ ?_|intro _))<;>first|omega|exact jb|exact jc ‹False›|skip
     all_goals first|omega|rfl|contradiction|exact⟨by omega,by omega⟩|trace_state
 · have h0:=h1
   refine orcL ?_;go_invoke;refine orcS (by kernel_rfl) ?_
   simp only [zi,Nat.reduceAdd];subst hI;simp only [nrmA,nrmB,nrlB,reduceCtorEq,HO.abs.injEq,Gh.rq.injEq,Rq.mk.injEq]
   by_cases hi:i<b.length
   · have hg:=hgo hi
     have hn:=hrn hi
     (repeat' (first|refine ja ?_ ?_|intro _))<;>first|omega|exact jb|exact jc ‹False›|skip
     all_goals first|omega|exact hg|exact hn|contradiction|(have:=(b.getD i 0).toNat_lt;omega)|trace_state
   · have hg:=hend hi
     rw [← hg];have hon:=h3.on;simp only at hon
     (repeat' (first|refine ja ?_ ?_|intro _))<;>first|omega|exact jb|exact jc ‹False›|skip
     all_goals first|omega|rfl|contradiction|exact⟨by omega,by omega⟩|trace_state
 · have h0:=h1
   refine orcL ?_;go_invoke;refine orcS (by kernel_rfl) ?_
   simp only [zi,Nat.reduceAdd];subst hI;simp only [nrmA,nrmB,nrlB,reduceCtorEq,HO.abs.injEq,Gh.rq.injEq,Rq.mk.injEq]
   by_cases hi:i<b.length
   · have hg:=hgo hi
     have hn:=hrn hi
     (repeat' (first|refine ja ?_ ?_|intro _))<;>first|omega|exact jb|exact jc ‹False›|skip
     all_goals first|omega|exact hg|exact hn|contradiction|(have:=(b.getD i 0).toNat_lt;omega)|trace_state
   · have hg:=hend hi
     rw [← hg];have hon:=h3.on;simp only at hon
     (repeat' (first|refine ja ?_ ?_|intro _))<;>first|omega|exact jb|exact jc ‹False›|skip
     all_goals first|omega|rfl|contradiction|exact⟨by omega,by omega⟩|trace_state
 · have h0:=h1
   refine orcL ?_;go_invoke;refine orcS (by kernel_rfl) ?_
   simp only [zi,Nat.reduceAdd];subst hI;simp only [nrmA,nrmB,nrlB,reduceCtorEq,HO.abs.injEq,Gh.rq.injEq,Rq.mk.injEq]
   by_cases hi:i<b.length
   · have hg:=hgo hi
     have hn:=hrn hi
     (repeat' (first|refine ja ?_ ?_|intro _))<;>first|omega|exact jb|exact jc ‹False›|skip
     all_goals first|omega|exact hg|exact hn|contradiction|(have:=(b.getD i 0).toNat_lt;omega)|trace_state
   · have hg:=hend hi
     rw [← hg];have hon:=h3.on;simp only at hon
     (repeat' (first|refine ja ?_ ?_|intro _))<;>first|omega|exact jb|exact jc ‹False›|skip
     all_goals first|omega|rfl|contradiction|exact⟨by omega,by omega⟩|trace_state
theorem znE (ln:Ln) (p:Int) (m tg:Str) (hm:Int) (hf:List Fld) (hl le:Int) (ch:Ch) (out:List Evt) (b:Str) (hneed:rqN0 ⟨ln,p,⟨m,tg,hm,hf,hl⟩,le,some ch,true,out⟩ b):Spc Tryz.prog 45 [.v (.one (.ptr 0 0)),.v (.one (.p (.list .byte b)))] [.abs (.rq ⟨ln,p,⟨m,tg,hm,hf,hl⟩,le,some ch,true,out⟩)] (.ret (.v (.one (.row 1)))) [.abs (.rq ((zO ⟨ln,p,⟨m,tg,hm,hf,hl⟩,le,some ch,true,out⟩ b))),.row .evt 34 ((yK (zO ⟨ln,p,⟨m,tg,hm,hf,hl⟩,le,some ch,true,out⟩ b).out))]:=by
 obtain⟨n,hI0,hnb⟩:=hneed;have hat:=zjE hI0 b
 refine spH Tryz.func45 (by kernel_rfl) { cfgQ with fz:=[],keep:=some [0,1,4,6,10,11,12]} [um,ul,xJ,xI] (by kernel_rfl) ?_
 intro I X hI hX
 refine orcL ?_;go_invoke;refine orcS (by kernel_rfl) ?_
 simp only [zi,Nat.reduceAdd]
 have hr:({ (⟨ln,p,⟨m,tg,hm,hf,hl⟩,le,some ch,true,out⟩:Rq) with out:=[]}:Rq)=(⟨ln,p,⟨m,tg,hm,hf,hl⟩,le,some ch,true,[]⟩:Rq):=rfl
 unfold rqAt at hat;unfold zO;rw [hr] at hat ⊢
 refine lpH hI [um,ul,xJ,xI] hX [0,1,10,11,12] (fun(g:Nat × Rq)=>match g with|(i,r)=>i≤b.length∧r=rF (⟨ln,p,⟨m,tg,hm,hf,hl⟩,le,some ch,true,[]⟩:Rq) (b.take i)∧RqI r (n+i)∧zF r.out≤i) (fun(g:Nat × Rq)=>match g with|(i,r)=>⟨[(0,.v (.one (.ptr 0 0))),(1,.v (.one (.p (.list .byte b)))),(10,.v (.one (.p (.list .byte b)))),(11,.v (.one (.p (.int .i64 ((I.len (α:=UInt8) b)))))),(12,.v (.one (.p (.int .i64 i))))],[.abs (.rq r)],25,none⟩) (fun(g:Nat × Rq)=>match g with|(i,r)=>b.length - i) (0,(⟨ln,p,⟨m,tg,hm,hf,hl⟩,le,some ch,true,[]⟩:Rq)) (by kernel_rfl) (by kernel_rfl) ?_ ?_
 · exact⟨jM _,rfl,hat.1,hat.2⟩
 rintro⟨i,⟨ln2,p2,⟨m2,t2,hm2,hf2,hl2⟩,le2,ck2,own2,out2⟩⟩ ⟨h1,h2,h3,h4⟩ A hA;simp only at hA h1 h2 h3 h4
 have hrn:i<b.length→rqN _:=fun h=>⟨n+i,by omega,h3⟩
 have hgo:i<b.length→_:=fun h=>hA (i+1,rqF ⟨ln2,p2,⟨m2,t2,hm2,hf2,hl2⟩,le2,ck2,own2,out2⟩ (b.getD i 0)) ⟨by simp only;omega,by simp only;rw [zdn _ _ h,← h2],by simp only;exact zlH h3 _,by simp only;have:=zak ⟨ln2,p2,⟨m2,t2,hm2,hf2,hl2⟩,le2,ck2,own2,out2⟩ (b.getD i 0);simp only at this;omega⟩ (by simp only;omega)
 have hend: ¬ i<b.length→_:=fun h=>h2.trans (by rw [jq (by omega)])
 rcases ck2 with _|ch2<;>rcases own2 with _|_
 · have h0:=h1
   refine orcL ?_;go_invoke;refine orcS (by kernel_rfl) ?_
   simp only [zi,Nat.reduceAdd];subst hI;simp only [nrmA,nrmB,nrlB,reduceCtorEq,HO.abs.injEq,Gh.rq.injEq,Rq.mk.injEq]
   by_cases hi:i<b.length
   · have hg:=hgo hi
     have hn:=hrn hi
     (repeat' (first|refine ja ?_ ?_|intro _))<;>first|omega|exact jb|exact jc ‹False›|skip
     all_goals first|omega|exact hg|exact hn|contradiction|(have:=(b.getD i 0).toNat_lt;omega)|trace_state
   · have hg:=hend hi
     rw [← hg];have hon:=h3.on;simp only at hon
     (repeat' (first|refine ja ?_ ?_|intro _))<;>first|omega|exact jb|exact jc ‹False›|skip
     all_goals first|omega|rfl|contradiction|exact⟨by omega,by omega⟩|trace_state
 · have h0:=h1
   refine orcL ?_;go_invoke;refine orcS (by kernel_rfl) ?_
   simp only [zi,Nat.reduceAdd];subst hI;simp only [nrmA,nrmB,nrlB,reduceCtorEq,HO.abs.injEq,Gh.rq.injEq,Rq.mk.injEq]
   by_cases hi:i<b.length
   · have hg:=hgo hi
     have hn:=hrn hi
     (repeat' (first|refine ja ?_ ?_|intro _))<;>first|omega|exact jb|exact jc ‹False›|skip
     all_goals first|omega|exact hg|exact hn|contradiction|(have:=(b.getD i 0).toNat_lt;omega)|trace_state
   · have hg:=hend hi
     rw [← hg];have hon:=h3.on;simp only at hon
     (repeat' (first|refine ja ?_ ?_|intro _))<;>first|omega|exact jb|exact jc ‹False›|skip
     all_goals first|omega|rfl|contradiction|exact⟨by omega,by omega⟩|trace_state
 · have h0:=h1
   refine orcL ?_;go_invoke;refine orcS (by kernel_rfl) ?_
   simp only [zi,Nat.reduceAdd];subst hI;simp only [nrmA,nrmB,nrlB,reduceCtorEq,HO.abs.injEq,Gh.rq.injEq,Rq.mk.injEq]
   by_cases hi:i<b.length
   · have hg:=hgo hi
     have hn:=hrn hi
     (repeat' (first|refine ja ?_ ?_|intro _))<;>first|omega|exact jb|exact jc ‹False›|skip
     all_goals first|omega|exact hg|exact hn|contradiction|(have:=(b.getD i 0).toNat_lt;omega)|trace_state
   · have hg:=hend hi
     rw [← hg];have hon:=h3.on;simp only at hon
     (repeat' (first|refine ja ?_ ?_|intro _))<;>first|omega|exact jb|exact jc ‹False›|skip
     all_goals first|omega|rfl|contradiction|exact⟨by omega,by omega⟩|trace_state
 · have h0:=h1
   refine orcL ?_;go_invoke;refine orcS (by kernel_rfl) ?_
   simp only [zi,Nat.reduceAdd];subst hI;simp only [nrmA,nrmB,nrlB,reduceCtorEq,HO.abs.injEq,Gh.rq.injEq,Rq.mk.injEq]
   by_cases hi:i<b.length
   · have hg:=hgo hi
     have hn:=hrn hi
     (repeat' (first|refine ja ?_ ?_|intro _))<;>first|omega|exact jb|exact jc ‹False›|skip
     all_goals first|omega|exact hg|exact hn|contradiction|(have:=(b.getD i 0).toNat_lt;omega)|trace_state
   · have hg:=hend hi
     rw [← hg];have hon:=h3.on;simp only at hon
     (repeat' (first|refine ja ?_ ?_|intro _))<;>first|omega|exact jb|exact jc ‹False›|skip
     all_goals first|omega|rfl|contradiction|exact⟨by omega,by omega⟩|trace_state
theorem znF (ln:Ln) (p:Int) (m tg:Str) (hm:Int) (hf:List Fld) (hl le:Int) (ch:Ch) (out:List Evt) (b:Str) (hneed:rqN0 ⟨ln,p,⟨m,tg,hm,hf,hl⟩,le,some ch,false,out⟩ b):Spc Tryz.prog 45 [.v (.one (.ptr 0 0)),.v (.one (.p (.list .byte b)))] [.abs (.rq ⟨ln,p,⟨m,tg,hm,hf,hl⟩,le,some ch,false,out⟩)] (.ret (.v (.one (.row 1)))) [.abs (.rq ((zO ⟨ln,p,⟨m,tg,hm,hf,hl⟩,le,some ch,false,out⟩ b))),.row .evt 34 ((yK (zO ⟨ln,p,⟨m,tg,hm,hf,hl⟩,le,some ch,false,out⟩ b).out))]:=by
 obtain⟨n,hI0,hnb⟩:=hneed;have hat:=zjE hI0 b
 refine spH Tryz.func45 (by kernel_rfl) { cfgQ with fz:=[],keep:=some [0,1,4,6,10,11,12]} [um,ul,xJ,xI] (by kernel_rfl) ?_
 intro I X hI hX
 refine orcL ?_;go_invoke;refine orcS (by kernel_rfl) ?_
 simp only [zi,Nat.reduceAdd]
 have hr:({ (⟨ln,p,⟨m,tg,hm,hf,hl⟩,le,some ch,false,out⟩:Rq) with out:=[]}:Rq)=(⟨ln,p,⟨m,tg,hm,hf,hl⟩,le,some ch,false,[]⟩:Rq):=rfl
 unfold rqAt at hat;unfold zO;rw [hr] at hat ⊢
 refine lpH hI [um,ul,xJ,xI] hX [0,1,10,11,12] (fun(g:Nat × Rq)=>match g with|(i,r)=>i≤b.length∧r=rF (⟨ln,p,⟨m,tg,hm,hf,hl⟩,le,some ch,false,[]⟩:Rq) (b.take i)∧RqI r (n+i)∧zF r.out≤i) (fun(g:Nat × Rq)=>match g with|(i,r)=>⟨[(0,.v (.one (.ptr 0 0))),(1,.v (.one (.p (.list .byte b)))),(10,.v (.one (.p (.list .byte b)))),(11,.v (.one (.p (.int .i64 ((I.len (α:=UInt8) b)))))),(12,.v (.one (.p (.int .i64 i))))],[.abs (.rq r)],25,none⟩) (fun(g:Nat × Rq)=>match g with|(i,r)=>b.length - i) (0,(⟨ln,p,⟨m,tg,hm,hf,hl⟩,le,some ch,false,[]⟩:Rq)) (by kernel_rfl) (by kernel_rfl) ?_ ?_
 · exact⟨jM _,rfl,hat.1,hat.2⟩
 rintro⟨i,⟨ln2,p2,⟨m2,t2,hm2,hf2,hl2⟩,le2,ck2,own2,out2⟩⟩ ⟨h1,h2,h3,h4⟩ A hA;simp only at hA h1 h2 h3 h4
 have hrn:i<b.length→rqN _:=fun h=>⟨n+i,by omega,h3⟩
 have hgo:i<b.length→_:=fun h=>hA (i+1,rqF ⟨ln2,p2,⟨m2,t2,hm2,hf2,hl2⟩,le2,ck2,own2,out2⟩ (b.getD i 0)) ⟨by simp only;omega,by simp only;rw [zdn _ _ h,← h2],by simp only;exact zlH h3 _,by simp only;have:=zak ⟨ln2,p2,⟨m2,t2,hm2,hf2,hl2⟩,le2,ck2,own2,out2⟩ (b.getD i 0);simp only at this;omega⟩ (by simp only;omega)
 have hend: ¬ i<b.length→_:=fun h=>h2.trans (by rw [jq (by omega)])
 rcases ck2 with _|ch2<;>rcases own2 with _|_
 · have h0:=h1
   refine orcL ?_;go_invoke;refine orcS (by kernel_rfl) ?_
   simp only [zi,Nat.reduceAdd];subst hI;simp only [nrmA,nrmB,nrlB,reduceCtorEq,HO.abs.injEq,Gh.rq.injEq,Rq.mk.injEq]
   by_cases hi:i<b.length
   · have hg:=hgo hi
     have hn:=hrn hi
     (repeat' (first|refine ja ?_ ?_|intro _))<;>first|omega|exact jb|exact jc ‹False›|skip
     all_goals first|omega|exact hg|exact hn|contradiction|(have:=(b.getD i 0).toNat_lt;omega)|trace_state
   · have hg:=hend hi
     rw [← hg];have hon:=h3.on;simp only at hon
     (repeat' (first|refine ja ?_ ?_|intro _))<;>first|omega|exact jb|exact jc ‹False›|skip
     all_goals first|omega|rfl|contradiction|exact⟨by omega,by omega⟩|trace_state
 · have h0:=h1
   refine orcL ?_;go_invoke;refine orcS (by kernel_rfl) ?_
   simp only [zi,Nat.reduceAdd];subst hI;simp only [nrmA,nrmB,nrlB,reduceCtorEq,HO.abs.injEq,Gh.rq.injEq,Rq.mk.injEq]
   by_cases hi:i<b.length
   · have hg:=hgo hi
     have hn:=hrn hi
     (repeat' (first|refine ja ?_ ?_|intro _))<;>first|omega|exact jb|exact jc ‹False›|skip
     all_goals first|omega|exact hg|exact hn|contradiction|(have:=(b.getD i 0).toNat_lt;omega)|trace_state
   · have hg:=hend hi
     rw [← hg];have hon:=h3.on;simp only at hon
     (repeat' (first|refine ja ?_ ?_|intro _))<;>first|omega|exact jb|exact jc ‹False›|skip
     all_goals first|omega|rfl|contradiction|exact⟨by omega,by omega⟩|trace_state
 · have h0:=h1
   refine orcL ?_;go_invoke;refine orcS (by kernel_rfl) ?_
   simp only [zi,Nat.reduceAdd];subst hI;simp only [nrmA,nrmB,nrlB,reduceCtorEq,HO.abs.injEq,Gh.rq.injEq,Rq.mk.injEq]
   by_cases hi:i<b.length
   · have hg:=hgo hi
     have hn:=hrn hi
     (repeat' (first|refine ja ?_ ?_|intro _))<;>first|omega|exact jb|exact jc ‹False›|skip
     all_goals first|omega|exact hg|exact hn|contradiction|(have:=(b.getD i 0).toNat_lt;omega)|trace_state
   · have hg:=hend hi
     rw [← hg];have hon:=h3.on;simp only at hon
     (repeat' (first|refine ja ?_ ?_|intro _))<;>first|omega|exact jb|exact jc ‹False›|skip
     all_goals first|omega|rfl|contradiction|exact⟨by omega,by omega⟩|trace_state
 · have h0:=h1
   refine orcL ?_;go_invoke;refine orcS (by kernel_rfl) ?_
   simp only [zi,Nat.reduceAdd];subst hI;simp only [nrmA,nrmB,nrlB,reduceCtorEq,HO.abs.injEq,Gh.rq.injEq,Rq.mk.injEq]
   by_cases hi:i<b.length
   · have hg:=hgo hi
     have hn:=hrn hi
     (repeat' (first|refine ja ?_ ?_|intro _))<;>first|omega|exact jb|exact jc ‹False›|skip
     all_goals first|omega|exact hg|exact hn|contradiction|(have:=(b.getD i 0).toNat_lt;omega)|trace_state
   · have hg:=hend hi
     rw [← hg];have hon:=h3.on;simp only at hon
     (repeat' (first|refine ja ?_ ?_|intro _))<;>first|omega|exact jb|exact jc ‹False›|skip
     all_goals first|omega|rfl|contradiction|exact⟨by omega,by omega⟩|trace_state
def WA (I:Alg):KU
 |[.v (.one (.ptr 0 0)),.v (.one (.p (.list .byte b)))],[.abs (.rq q)]=>(fun(b:Str)=>(some (.one ⟨I.hid (rqN0 q b),(.ret (.v (.one (.row 1)))),[.abs (.rq (I.hid (zO q b))),.row .evt 34 (I.hid (yK (zO q b).out))]⟩):Option CT)) b
 |_,_=>none
theorem ze5:zx Tryz.prog 45 (WA alg):=by
 intro args hp r h;unfold WA at h;split at h<;>cases h
 rename_i b q;simp only [CT.Good,zh];intro hneed;obtain⟨ln,p,⟨m,tg,hm,hf,hl⟩,le,ck,own,out⟩:=q
 cases ck with
 | none=>cases own with
   |true=>exact znG ln p m tg hm hf hl le out b hneed
   |false=>exact znH ln p m tg hm hf hl le out b hneed
 | some ch=>cases own with
   |true=>exact znE ln p m tg hm hf hl le ch out b hneed
   |false=>exact znF ln p m tg hm hf hl le ch out b hneed
def zaj:Know Tryz.prog:=⟨45,WA,ze5⟩
def zai:Know Tryz.prog:=⟨45,fun I=>zu I (WA I),zf ze5⟩
end Go.Proofs.YtkjepecoodjbmaaGreatDoor
namespace Go.Proofs.YtkjepecoodjbmaaGreatDoor
open Go Go.Sep Go.Ab
set_option maxRecDepth 100000
def EvO (l:List Evt):Prop:=∀ e ∈ l,FsOk e.head.fields
theorem UR {a b:List Evt} (h:EvO a) (k:EvO b):EvO (a++b):=fun e m=>(List.mem_append.1 m).elim (h e) (k e)
theorem Qh:FsOk []:=⟨by decide,fun f h=>by cases h⟩
theorem zbb {e:Evt} (h:FsOk e.head.fields):EvO [e]:=fun x m=>by rw [List.mem_singleton.1 m];exact h
theorem zpI {o:List Evt} {e:Evt} (h:EvO (o++[e])):EvO (uy o e):=by
 rcases List.eq_nil_or_concat o with rfl|⟨z,x,rfl⟩
 · exact h
 · rw [List.concat_eq_append] at h ⊢
   rw [xu]
   split
   · exact UR (fun y m=>h y (by simp [m])) (zbb Qh)
   · exact h
theorem zkP: ∀ (l o:List Evt),EvO (o++l)→EvO (l.foldl uy o)
 |[],o,h=>by rw [List.append_nil] at h;exact h
 | e::l,o,h=>by
   rw [List.foldl_cons];refine zkP l _ ?_
   rw [show o++e::l=(o++[e])++l by simp] at h
   exact UR (zpI fun y m=>h y (List.mem_append_left _ m)) (fun y m=>h y (List.mem_append_right _ m))
theorem zrh {q:Rq} (h:EvO q.out) (k:FsOk q.h.fields):EvO (yG q).1.out:=by
 unfold yG rG
 repeat' split
 all_goals first
  |exact h
  |exact UR (UR h (zbb k)) (zbb Qh)
  |exact UR h (zbb k)
theorem zra {q:Rq} (h:EvO q.out) (k:FsOk q.h.fields) (s:Str):EvO (zU q s).1.out:=by
 have hd:=zrh h k;unfold zU
 repeat' split
 all_goals first|exact hd|exact h
theorem zwY {q:Rq} (h:EvO q.out) (k:FsOk q.h.fields) (c:UInt8):EvO (rqF q c).out:=by
 have hl:=zra (q:= { q with ln:=(lnF q.ln c).1}) h k (lnF q.ln c).2.1
 have h1: ∀ (o:List Evt) (e:Evt),EvO o→e.head=hd0→EvO (o++[e]):=fun o e a b=>UR a (zbb (by rw [b];exact Qh))
 have hd:EvO (if(chF (ckOf q) c).2.1≠[] then q.out++[evB (chF (ckOf q) c).2.1] else q.out):=by
  split
  · exact h1 _ _ h rfl
  · exact h
 unfold rqF
 split
 · split
   · exact h1 _ _ (h1 _ _ h rfl) rfl
   · exact h1 _ _ h rfl
 split
 · split
   · exact h1 _ _ h rfl
   split
   · exact h1 _ _ hd rfl
   · exact hd
 split
 · split
   · exact h1 _ _ h rfl
   split
   · split
     · exact h1 _ _ hl rfl
     · exact hl
   · exact h
 · exact h
theorem znx: ∀ (b:Str) (q:Rq) (i:Nat),RqI q i→i+b.length≤1000000→EvO q.out→EvO (rF q b).out
 |[],q,i,_,_,h=>h
 | c::b,q,i,hi,hb,h=>by
   rw [jh] at hb
   exact znx b _ (i+1) (zlH hi c) (by omega) (zwY h ⟨by have:=hi.fl;omega,fun f m=>by have:=hi.ff f m;omega⟩ c)
end Go.Proofs.YtkjepecoodjbmaaGreatDoor
namespace Go.Proofs.YtkjepecoodjbmaaGreatDoor
open Go Go.Sep Go.Ab
set_option maxRecDepth 100000
theorem zhC: ∀ (b:Str) (q:Rq) (i:Nat),RqI q i→RqI (rF q b) (i+b.length)
 |[],q,i,h=>h
 | c::b,q,i,h=>by
   have:=zhC b _ _ (zlH h c)
   rw [jh,show i+(b.length+1)=i+1+b.length by omega];exact this
theorem ze2: ∀ (b:Str) (q:Rq),zF (rF q b).out≤zF q.out+b.length
 |[],q=>jL _
 | c::b,q=>by
   have h1:=ze2 b (rqF q c);have h2:=zak q c;rw [jh];have:rF q (c::b)=rF (rqF q c) b:=rfl;rw [this];omega
end Go.Proofs.YtkjepecoodjbmaaGreatDoor
namespace Go.Proofs.YtkjepecoodjbmaaGreatDoor
open Go Go.Sep Go.Ab
set_option maxRecDepth 100000
end Go.Proofs.YtkjepecoodjbmaaGreatDoor
namespace Go.Proofs.YtkjepecoodjbmaaGreatDoor
open Go Go.Sep Go.Ab
set_option maxRecDepth 100000
end Go.Proofs.YtkjepecoodjbmaaGreatDoor
namespace Go.Proofs.YtkjepecoodjbmaaGreatDoor
open Go Go.Sep Go.Ab
set_option maxRecDepth 100000
end Go.Proofs.YtkjepecoodjbmaaGreatDoor
namespace Go.Proofs.YtkjepecoodjbmaaGreatDoor
open Go Go.Sep Go.Ab
def SOk (q:Sto) (m:Int):Prop:=zJ q.l q.n∧q.b.length≤100000∧q.n≤m∧0≤q.s∧q.s≤q.b.length
theorem yX {q:Sto} {m m':Int} (h:SOk q m) (k:m≤m'):SOk q m':=⟨h.1,h.2.1,by have:=h.2.2.1;omega,h.2.2.2⟩
theorem ztB (l:List Upl) (n:Int) (b:Str) (e:Ent):b.length≤(wrtB l n b e).length:=by unfold wrtB;split<;>simp
theorem zeN {q:Sto} {m:Int} (h:SOk q m) (e:Ent):SOk (wsS q e) (m+1):=by
 obtain⟨h1,h2,h3,h4,h5⟩:=h;have:=zs6 q e;have hb:=ztB q.l q.n q.b e
 exact⟨QD h1 _ _,qV _ h2,by omega,h4,by show q.s≤((wrtB q.l q.n q.b e).length:Int);omega⟩
theorem ZW {q:Sto} {m:Int} (h:SOk q m) {e:Ent} (he:e.kind≠1):SOk (wsS q e) m:=by
 have h1:=zeN h e;have:(wsS q e).n=q.n:=qI he
 exact⟨h1.1,h1.2.1,by rw [this];exact h.2.2.1,h1.2.2.2⟩
theorem U6 {q:Sto} {m:Int} (h:SOk q m):SOk (syS q) m:=⟨h.1,h.2.1,h.2.2.1,Int.natCast_nonneg _,Int.le_refl _⟩
theorem zja {m:Int} {c:Prop} [Decidable c] {a b:TA} (ha:SOk a.q m) (hb:SOk b.q m):SOk (if c then a else b).q m:=by split<;>assumption
theorem zeO {q:Sto} {k:Int} (h:SOk q k) (m t:Str) (f:List Fld) (body:Str):SOk (yC q m t f body).q (k+1):=by
 have h0:SOk q (k+1):=yX h (by omega)
 have hc:SOk (xA q f).q (k+1):=by
  unfold xA
  repeat' with_reducible refine zja ?_ ?_
  all_goals first|exact h0|exact U6 (zeN h _)
 have hd: ∀ u,SOk (VJ q u).q (k+1):=fun u=>by
  unfold VJ
  exact zja h0 (U6 (ZW h0 (by simp)))
 have hp: ∀ u,SOk (wP q u f body).q (k+1):=fun u=>by
  unfold wP
  have h1:SOk (wsS q (apE u.id body)) (k+1):=ZW h0 (by simp [apE])
  have h2: ∀ z,SOk (wsS (wsS q (apE u.id body)) ⟨3,u.id,z,[]⟩) (k+1):=fun z=>ZW h1 (by simp)
  repeat' with_reducible refine zja ?_ ?_
  all_goals first|exact h0|exact h1|exact U6 h1|exact U6 (h2 _)|exact h2 _
 unfold yC
 repeat' with_reducible refine zja ?_ ?_
 all_goals first|exact h0|exact hc|exact hd _|exact hp _
theorem zjb {q:Sto} {m:Int} (h:SOk q m) (p:Prt):SOk (tH q p) (m+1):=by
 have hap: ∀ {x:Sto} {k:Int},SOk x k→SOk (apQ x (q.n+1) 0 p.bytes) k:=fun h=>by
  unfold apQ
  split
  · exact h
  · exact ZW h (show(2:Int)≠1 by decide)
 unfold tH
 split
 · exact zeN h _
 · split
   · exact ZW (hap (zeN h _)) (show(4:Int)≠1 by decide)
   · exact hap (zeN h _)
theorem zeP: ∀ (ids:List Int) {q:Sto} {m:Int},SOk q m→SOk (Xt q ids) m
 |[],_,_,h=>h
 |k::r,_,_,h=>zeP r (ZW h (show(4:Int)≠1 by decide))
theorem Q8: ∀ (ps:List Prt) {q:Sto} {m:Int} (ids:List Int) (t:Str),SOk q m→SOk (vN q ids t ps).q (m+ps.length)
 |[],q,m,ids,t,h=>yX (U6 h) (by simp)
 | p ::r,q,m,ids,t,h=>by
   unfold vN
   split
   · exact yX (Q8 r ids t h) (by simp;omega)
   · split
     · exact yX (U6 (zeP ids (zjb h p))) (by simp;omega)
     · exact yX (Q8 r _ _ (zjb h p)) (by simp;omega)
theorem ztQ {q:Sto} {k:Int} (h:SOk q k) (m t:Str) (f:List Fld) (body:Str):SOk (ansG q m t f body).q (k+12):=by
 have h0:SOk q (k+12):=yX h (by omega)
 have hp:=(Yc f body).1;unfold ansG
 split
 · exact yX (zeO h m t f body) (by omega)
 · split
   · exact h0
   · split
     · exact h0
     · unfold XK
       split
       · exact h0
       · split
         · exact h0
         · exact yX (Q8 _ _ _ h) (by omega)
def k3 (e:Evt):Bool:=decide (e.kind=3)
def cnt3 (l:List Evt):Nat:=(l.filter k3).length
theorem Zz (a b:List Evt):cnt3 (a++b)=cnt3 a+cnt3 b:=by unfold cnt3;simp
theorem VF (x:GE) (a b:List Evt):evsG x (a++b)=evsG (evsG x a) b:=List.foldl_append
def EOk (x:GE) (m:Int) (k:Nat):Prop:=SOk x.q m∧FsOk x.h.fields∧x.b.length≤k
theorem ztq {x:GE} {m:Int} {k:Nat} (h:EOk x m k) {e:Evt} (he:FsOk e.head.fields):EOk (evG x e) (m+12 * cnt3 [e]) (k+e.bytes.length):=by
 obtain⟨h1,h2,h3⟩:=h
 have hm:SOk x.q (m+12 * cnt3 [e]):=yX h1 (by omega)
 unfold evG
 split
 · exact⟨hm,he,jM _⟩
 · split
   · exact⟨hm,h2,by simp only [jk];omega⟩
   · split
     · rename_i hk
       have:cnt3 [e]=1:=by simp [cnt3,k3,hk]
       rw [this]
       exact⟨ztQ h1 _ _ _ _,h2,by simp only;omega⟩
     · split
       · exact⟨hm,h2,by simp only;omega⟩
       · exact⟨hm,h2,by omega⟩
theorem zif: ∀ (l:List Evt) {x:GE} {m:Int} {k:Nat},EOk x m k→EvO l→EOk (evsG x l) (m+12 * cnt3 l) (k+zF l)
 |[],x,m,k,h,_=>by show EOk x (m+12 * ((0:Nat):Int)) (k+0);simpa using h
 | e::l,x,m,k,h,ho=>by
   have h1:=zif l (ztq h (ho e List.mem_cons_self)) fun y hy=>ho y (List.mem_cons_of_mem _ hy);have e1:cnt3 (e::l)=cnt3 [e]+cnt3 l:=Zz [e] l
   have e2:zF (e::l)=e.bytes.length+zF l:=by simp [zF]
   rw [e1,e2,show m+12 * ((cnt3 [e]+cnt3 l:Nat):Int)=m+12 * (cnt3 [e]:Int)+12 * (cnt3 l:Int) by omega,← Nat.add_assoc]
   exact h1
theorem zrN (o:List Evt) (e:Evt):(uy o e).filter k3=o.filter k3++[e].filter k3:=by
 rcases List.eq_nil_or_concat o with rfl|⟨z,x,rfl⟩
 · rfl
 · rw [List.concat_eq_append,xu]
   split
   · rename_i h
     simp [k3,h.1,h.2,evB]
   · rw [List.filter_append]
theorem zkf: ∀ (l o:List Evt),(l.foldl uy o).filter k3=o.filter k3++l.filter k3
 |[],o=>by simp
 |e::l,o=>by rw [List.foldl_cons,zkf l,zrN,jo,← List.filter_append];rfl
theorem zp1 (l:List Evt):cnt3 (yK l)=cnt3 l:=congrArg List.length (zkf l [])
theorem zeg (e:Evt) (h:e.kind≠3):cnt3 [e]=0:=by simp [cnt3,k3,h]
theorem zwZ (q:Rq) (c:UInt8):cnt3 (rqF q c).out≤cnt3 q.out+1:=by
 have hb: ∀ (o:List Evt) (s:Str),cnt3 (o++[evB s])=cnt3 o:=fun o s=>by rw [Zz,zeg _ (show(2:Int)≠3 by decide)];rfl
 have hh: ∀ (o:List Evt) (s:Hd),cnt3 (o++[evH s])=cnt3 o:=fun o s=>by rw [Zz,zeg _ (show(1:Int)≠3 by decide)];rfl
 have hf: ∀ (o:List Evt) (s:Int),cnt3 (o++[evF s])=cnt3 o:=fun o s=>by rw [Zz,zeg _ (show(4:Int)≠3 by decide)];rfl
 have he: ∀ (o:List Evt),cnt3 (o++[evE])=cnt3 o+1:=fun o=>by rw [Zz];rfl
 have hd: ∀ q:Rq,cnt3 (yG q).1.out≤cnt3 q.out+1:=fun q=>by
  unfold yG rG
  repeat' split
  all_goals first|omega|(simp only [hb,hh,hf,he];omega)
 have hl: ∀ (q:Rq) (s:Str),cnt3 (zU q s).1.out≤cnt3 q.out+1:=fun q s=>by
  have:=hd q;unfold zU
  repeat' split
  all_goals first|exact this|(simp only;omega)
 have hL:=hl { q with ln:=(lnF q.ln c).1} (lnF q.ln c).2.1
 simp only at hL;unfold rqF rG vz
 repeat' split
 all_goals first|omega|(simp only [hb,hh,hf,he];omega)
theorem zny: ∀ (b:Str) (q:Rq),cnt3 (rF q b).out≤cnt3 q.out+b.length
 |[],q=>jL _
 | c::b,q=>by
   have h1:=zny b (rqF q c);have h2:=zwZ q c;have:rF q (c::b)=rF (rqF q c) b:=rfl;rw [this,jh];omega
def mayW (w:Bool):List Evt→Prop
 |[]=>True
 |e::l=>(e.kind=2→w=true)∧mayW (if e.kind=1 then true else if e.kind=3 then false else w) l
def behW (w:Bool) (l:List Evt):Bool:=l.foldl (fun w e=>if e.kind=1 then true else if e.kind=3 then false else w) w
theorem V5 (w:Bool) (a b:List Evt):behW w (a++b)=behW (behW w a) b:=List.foldl_append
theorem rW: ∀ (a b:List Evt) (w:Bool),mayW w (a++b)↔mayW w a∧mayW (behW w a) b
 |[],b,w=>by simp [mayW,behW]
 | e::a,b,w=>by
   simp only [List.cons_append,mayW,rW a b];exact and_assoc.symm
theorem zto (x:GE) (l:List Evt):(evsG x l).w=behW x.w l:=by
 induction l generalizing x with
 |nil=>rfl
 | cons e l ih=>
   show(evsG (evG x e) l).w=_
   rw [ih]
   have:(evG x e).w=(if e.kind=1 then true else if e.kind=3 then false else x.w):=by
    unfold evG
    repeat' split
    all_goals first|rfl|(exfalso;omega)|simp_all
   rw [this];rfl
def MW (w:Bool) (q:Rq):Prop:=mayW w q.out∧(q.pos=2∨q.pos=3→behW w q.out=true)
theorem zj1 {w:Bool} {o:List Evt} (h:mayW w o) {e:Evt} (he:e.kind≠2):mayW w (o++[e]):=(rW _ _ _).2 ⟨h,fun k=>absurd k he,jb⟩
theorem zoz {w:Bool} {o:List Evt} (h:mayW w o) (k:behW w o=true) (s:Str):mayW w (o++[evB s])∧behW w (o++[evB s])=true:=⟨(rW _ _ _).2 ⟨h,fun _=>k,jb⟩,by rw [V5,k];rfl⟩
theorem zlh (w:Bool) (o:List Evt) (h:Hd):behW w (o++[evH h])=true:=by rw [V5];rfl
theorem zui {w:Bool} {q:Rq} (h:mayW w q.out) (hp:q.pos=0∨q.pos=1):MW w (yG q).1:=by
 have hh: ∀ d,mayW w (q.out++[evH d]):=fun d=>zj1 h (show(1:Int)≠2 by decide)
 have h0: ¬ (q.pos=2∨q.pos=3):=by omega
 unfold yG rG
 repeat' split
 · exact⟨h,fun k=>absurd k h0⟩
 · exact⟨h,fun k=>absurd k h0⟩
 · exact⟨zj1 (hh _) (show(3:Int)≠2 by decide),fun k=>absurd (show(0:Int)=2∨(0:Int)=3 from k) (by decide)⟩
 · exact⟨hh _,fun _=>zlh _ _ _⟩
 · exact⟨hh _,fun _=>zlh _ _ _⟩
theorem zuh {w:Bool} {q:Rq} (h:mayW w q.out) (hp:q.pos=0∨q.pos=1) (s:Str):MW w (zU q s).1:=by
 have h0: ¬ (q.pos=2∨q.pos=3):=by omega
 unfold zU
 split
 · split
   · exact⟨h,fun k=>absurd k h0⟩
   · split
     · exact⟨h,fun k=>absurd (show(1:Int)=2∨(1:Int)=3 from k) (by decide)⟩
     · split
       · exact⟨h,fun k=>absurd k h0⟩
       · exact⟨h,fun k=>absurd k h0⟩
 · split
   · exact zui h hp
   · split
     · exact⟨h,fun k=>absurd k h0⟩
     · exact⟨h,fun k=>absurd k h0⟩
theorem zhM {w:Bool} {q:Rq} (h:mayW w q.out) (c:Int):MW w (vz q c):=⟨zj1 h (show(4:Int)≠2 by decide),fun k=>absurd (show(4:Int)=2∨(4:Int)=3 from k) (by decide)⟩
theorem zs4 {w:Bool} {q:Rq} (h:mayW w q.out):MW w (rG q):=⟨zj1 h (show(3:Int)≠2 by decide),fun k=>absurd (show(0:Int)=2∨(0:Int)=3 from k) (by decide)⟩
theorem mw_f {w:Bool} {q:Rq} (h:MW w q) (c:UInt8):MW w (rqF q c):=by
 unfold rqF
 split
 · rename_i hp
   have hb:=zoz h.1 (h.2 (.inl hp)) [c]
   split
   · exact zs4 hb.1
   · exact⟨hb.1,fun _=>hb.2⟩
 · split
   · rename_i hp
     have hk:=h.2 (.inr hp);have hb:=zoz h.1 hk (chF (ckOf q) c).2.1
     have hd:mayW w (if(chF (ckOf q) c).2.1≠[] then q.out++[evB (chF (ckOf q) c).2.1] else q.out)∧behW w (if(chF (ckOf q) c).2.1≠[] then q.out++[evB (chF (ckOf q) c).2.1] else q.out)=true:=by
      split
      · exact hb
      · exact⟨h.1,hk⟩
     split
     · exact zhM h.1 _
     · split
       · exact zs4 hd.1
       · exact⟨hd.1,fun _=>hd.2⟩
   · split
     · rename_i hp
       split
       · exact zhM h.1 _
       · split
         · have hl:=zuh (q:= { q with ln:=(lnF q.ln c).1}) h.1 hp (lnF q.ln c).2.1
           split
           · exact zhM hl.1 _
           · exact hl
         · exact h
     · exact h
theorem zs3 {w:Bool}: ∀ (b:Str) {q:Rq},MW w q→MW w (rF q b)
 |[],_,h=>h
 |c::b,_,h=>zs3 b (mw_f h c)
theorem zrH {w:Bool} {o:List Evt} {e:Evt} (h:mayW w (o++[e])):mayW w (uy o e)∧behW w (uy o e)=behW w (o++[e]):=by
 rcases List.eq_nil_or_concat o with rfl|⟨z,x,rfl⟩
 · exact⟨h,rfl⟩
 · rw [List.concat_eq_append] at h ⊢
   rw [xu]
   split
   · rename_i hk
     have h1:=(rW _ _ _).1 h;have h2:=(rW _ _ _).1 h1.1;refine⟨(rW _ _ _).2 ⟨h2.1,fun _=>h2.2.1 hk.2,jb⟩,?_⟩;simp only [V5]
     simp [behW,evB,hk.1,hk.2]
   · exact⟨h,rfl⟩
theorem zj2 {w:Bool}: ∀ (l o:List Evt),mayW w (o++l)→mayW w (l.foldl uy o)∧behW w (l.foldl uy o)=behW w (o++l)
 |[],o,h=>by rw [List.append_nil] at h ⊢;exact⟨h,rfl⟩
 | e::l,o,h=>by
   have e1:o++e::l=(o++[e])++l:=by simp
   rw [e1] at h ⊢;have h1:=(rW _ _ _).1 h;have h2:=zrH h1.1
   have h3:=zj2 l (uy o e) ((rW _ _ _).2 ⟨h2.1,by rw [h2.2];exact h1.2⟩)
   exact⟨h3.1,by rw [List.foldl_cons,h3.2,V5,h2.2,← V5]⟩
theorem zoC: ∀ {l:List Evt} {w:Bool} (_:mayW w l) {i:Nat} (hi:i<l.length),l[i].kind=2→behW w (l.take i)=true
 |e::l,w,h,0,_,k=>h.1 k
 |e::l,w,h,i+1,hi,k=>zoC (l:=l) h.2 (by simpa using hi) k
def CnI (c:Cn) (k:Nat):Prop:=RqI { c.q with out:=[]} k∧FsOk c.h.fields∧c.body.length≤k∧(c.q.pos=2∨c.q.pos=3→c.own=true)
theorem zbz:CnI cn0 0:=⟨zwX,Qh,jL _,fun _=>rfl⟩
theorem vK {c:Cn} {k k':Nat} (h:CnI c k) (hk:k≤k'):CnI c k':=⟨zjz h.1 hk,h.2.1,Nat.le_trans h.2.2.1 hk,h.2.2.2⟩
theorem zpw {c:Cn} {k:Nat} (h:CnI c k) {b:Str} (hb:k+b.length≤1000000):EvO (yK (zO c.q b).out)∧zF (yK (zO c.q b).out)≤b.length∧cnt3 (yK (zO c.q b).out)≤b.length∧(yK (zO c.q b).out).length≤4 * (k+b.length):=by
 have h1:EvO (zO c.q b).out:=znx b _ k h.1 hb (fun e m=>by cases m)
 have h2:zF (zO c.q b).out≤0+b.length:=ze2 b _;have h3:=zaK (zO c.q b).out;have h4:cnt3 (zO c.q b).out≤0+b.length:=zny b _;have h5:(zO c.q b).out.length≤4 * (k+b.length):=(zhC b _ k h.1).on;have h6:=zaL (zO c.q b).out
 exact⟨zkP _ [] h1,by omega,by rw [zp1];omega,by omega⟩
theorem ztk {c:Cn} {k:Nat} (h:CnI c k) (b:Str):mayW c.own (yK (zO c.q b).out)∧((zO c.q b).pos=2∨(zO c.q b).pos=3→behW c.own (yK (zO c.q b).out)=true):=by
 have h1:MW c.own (zO c.q b):=zs3 b ⟨jb,h.2.2.2⟩;have h2:=zj2 (zO c.q b).out [] h1.1;exact⟨h2.1,fun k=>h2.2.trans (h1.2 k)⟩
theorem zwi {q:Sto} {m:Int} {c:Cn} {k:Nat} (hq:SOk q m) (h:CnI c k) {b:Str} (hb:k+b.length≤1000000):SOk (fedE q c b).q (m+12 * b.length)∧CnI (fedC q c b) (k+b.length):=by
 obtain⟨h1,h2,h3,h4⟩:=zpw h hb;have h5:=zif _ (x:=⟨q,c.h,c.body,c.live,c.own,[]⟩) ⟨hq,h.2.1,h.2.2.1⟩ h1
 refine⟨yX h5.1 (by omega),znD (zhC b _ k h.1) (by simp),h5.2.1,?_,fun kp=> ?_⟩
 · have:=h5.2.2
   show(fedE q c b).b.length≤_
   unfold fedE;omega
 · exact(zto _ _).trans ((ztk h b).2 kp)
end Go.Proofs.YtkjepecoodjbmaaGreatDoor
namespace Go.Proofs.YtkjepecoodjbmaaGreatDoor
open Go Go.Sep Go.Ab
set_option maxRecDepth 100000
def Vq (I:Alg):KU
 |[.v (.agg [.p (.int .i64 st),.p (.list .fld fs),.p (.list .byte b)])],[]=>(fun(fs:List Fld) (b:Str)=>(some (.one ⟨I.hid ((fs.length≤100∧∀ f ∈ fs,f.name.length≤1000000∧f.value.length≤1000000)∧b.length≤9000),(.ret (.v (.one (.p (.list .byte (I.hid (writeT st fs b))))))),[]⟩):Option CT)) fs b
 |_,_=>none
theorem zge:zx Tryz.prog 82 (Vq alg):=by
 intro args hp r h;unfold Vq at h;split at h<;>cases h
 rename_i st fs b
 revert fs;intro(fs:List Fld)
 simp only [CT.Good,zh];intro hneed
 refine spH Tryz.func82 (by kernel_rfl) { cfgG with rl:=[0],keep:=some [0,1,2,3]} [zn6,zn5] (by kernel_rfl) ?_
 intro I X hI hX
 refine orcL ?_;go_invoke;refine orcS (by kernel_rfl) ?_
 simp only [zi,Nat.reduceAdd];subst hI;simp only [nrmA,nrmB,nrlB,reduceCtorEq,V0.agg.injEq];exact hneed
def zo8:Know Tryz.prog:=⟨82,Vq,zge⟩
def zo7:Know Tryz.prog:=⟨82,fun I=>zu I (Vq I),zf zge⟩
def Qb (I:Alg):KU
 |[.v (.one (.p (.str t)))],[]=>(fun(t:Str)=>(some (.one ⟨I.hid (True),(.ret (.v (.one (.p (.bool (I.hid (zfn t))))))),[]⟩):Option CT)) t
 |_,_=>none
theorem zko:zx Tryz.prog 124 (Qb alg):=by
 intro args hp r h;unfold Qb at h;split at h<;>cases h
 rename_i t;simp only [CT.Good,zh];intro _;generalize hr:zfn t=r;unfold zfn at hr
 refine spH Tryz.func124 (by kernel_rfl) { cfgT with keep:=some [0,2]} [xC,xB,zqI,zqH] (by kernel_rfl) ?_
 intro I X hI hX
 refine orcL ?_;go_invoke;refine orcS (by kernel_rfl) ?_
 simp only [zi,Nat.reduceAdd];subst hI;rw [show([47,102,105,108,101,115]:Str)=sW from rfl]
 try rw [show([47,102,105,108,101,115,47]:Str)=wU from rfl]
 simp only [nrmA,nrmB,nrlB,reduceCtorEq,V0.agg.injEq]
 by_cases h1:t=sW
 · rw [decide_eq_true h1,Bool.true_or] at hr
   subst hr;simp only [nrmA,nrmB,nrlB,reduceCtorEq,h1];exact⟨fun _=>jb,fun h=>h.elim⟩
 · rw [decide_eq_false h1,Bool.false_or] at hr
   simp only [nrmA,nrmB,nrlB,reduceCtorEq,h1]
   exact⟨fun h=>h.elim,fun _=>by simpa using hr⟩
def zrY:Know Tryz.prog:=⟨124,Qb,zko⟩
def zrX:Know Tryz.prog:=⟨124,fun I=>zu I (Qb I),zf zko⟩
theorem zcK: ∀ (ps:List Prt) (q:Sto) (ids:List Int) (t:Str),(∀ p ∈ ps,p.file.length≤40)→(vN q ids t ps).r.body.length≤t.length+60 * ps.length
 |[],_,_,_,_=>Nat.le_add_right _ _
 | p :: r,q,ids,t,h=>by
   have h1:=fun q ids t=>zcK r q ids t fun x hx=>h x (List.mem_cons_of_mem _ hx);have h2:=h p List.mem_cons_self;have h3:=wL (q.n+1);unfold vN
   split
   · have:=h1 q ids t;simp only [jh];omega
   · split
     · simp [V6]
     · have:=h1 (tH q p) (ids++[q.n+1]) (zls t (q.n+1) p)
       have e:(zls t (q.n+1) p).length≤t.length+60:=by
        unfold zls;simp only [jk,jh,ji];omega
       simp only [jh];omega
def FF (l:List Fld):Prop:=∀ x ∈ l,x.name.length≤1000000∧x.value.length≤1000000
theorem zsf {c:Prop} [Decidable c] {a b:TA} (ha:FF a.fs) (hb:FF b.fs):FF (if c then a else b).fs:=by split<;>assumption
theorem qU:FF []:=fun x h=>by cases h
theorem vZ {a b:Str} {l:List Fld} (h1:a.length≤1000000) (h2:b.length≤1000000) (h:FF l):FF (⟨a,b⟩::l):=fun y hy=>by
 rcases List.mem_cons.1 hy with rfl|hy
 · exact⟨h1,h2⟩
 · exact h y hy
theorem zd9 (n:Int):(decS n).length≤1000000:=by have:=wL n;omega
theorem znf {q:Sto} (h:zJ q.l q.n) (m t:Str) (f:List Fld) (body:Str):FF (yC q m t f body).fs:=by
 have hc:FF (xA q f).fs:=by
  unfold xA
  repeat' with_reducible refine zsf ?_ ?_
  all_goals first
   |exact qU
   |exact vZ (by decide) (by have:=wL (q.n+1);simp only [jk,wU,jh,ji];omega) qU
 have hd: ∀ u,FF (VJ q u).fs:=fun u=>by
  unfold VJ;exact zsf qU qU
 have hp: ∀ u,FF (wP q u f body).fs:=fun u=>by
  unfold wP
  repeat' with_reducible refine zsf ?_ ?_
  all_goals first
   |exact qU
   |exact vZ (by decide) (zd9 _) qU
 have ht: ∀ u:Upl,u.note.length≤1000000→FF (zbp u):=fun u hu=>by
  unfold zbp lenF
  refine vZ (by decide) (zd9 _) ?_
  split
  · refine vZ (by decide) (by decide) (vZ (by decide) (by decide) ?_)
    split
    · exact qU
    · exact vZ (by decide) hu qU
  · refine vZ (by decide) (zd9 _) (vZ (by decide) (by decide) ?_)
    split
    · exact qU
    · exact vZ (by decide) hu qU
 have hg: ∀ id,(getU q.l id).note.length≤1000000:=fun id=>by
  unfold getU
  split
  · rename_i hk
    have:=(h.each _ (wO hk)).nl;unfold yg at this
    exact Nat.le_trans this (by decide)
  · exact jM _
 unfold yC
 repeat' with_reducible refine zsf ?_ ?_
 all_goals first
  |exact qU
  |exact hc
  |exact hd _
  |exact hp _
  |exact ht _ (hg _)
  |exact vZ (by decide) (by decide) qU
  |exact vZ (by decide) (by decide) (vZ (by decide) (zd9 _) (vZ (by decide) (by decide) qU))
def ROk (r:Rpl):Prop:=(r.fields.length≤100∧∀ f ∈ r.fields,f.name.length≤1000000∧f.value.length≤1000000)∧r.body.length≤9000
theorem zjH (st:Int) (b:Str) (h:b.length≤9000):ROk ⟨st,[],b⟩:=⟨⟨jM _,fun f h=>by cases h⟩,h⟩
theorem zql {q:Sto} (h:zJ q.l q.n) {m t:Str} {f:List Fld} (hf:FOk f) (body:Str):ROk (ansG q m t f body).r:=by
 have h0: ∀ st,ROk (V6 st):=fun st=>zjH st [] (by decide)
 have hs:=Yc f body;unfold ansG
 split
 · refine⟨⟨?_,fun x hx=> ?_⟩,jM _⟩
   · show(resT::(yC q m t f body).fs).length≤100
     have:=zbN q m t f body;simp only [jh];omega
   · rcases List.mem_cons.1 (show x ∈ resT::(yC q m t f body).fs from hx) with rfl|hx
     · exact⟨by decide,by decide⟩
     · exact znf h m t f body x hx
 · split
   · exact h0 _
   · split
     · exact h0 _
     · unfold XK
       split
       · exact h0 _
       · split
         · exact h0 _
         · have:=zcK (rV f body).1 q [] [] hs.2.1
           refine⟨⟨by rw [VB];decide,fun x hx=>by rw [VB] at hx;cases hx⟩,?_⟩
           simp only [ji] at this;omega
def Y8 (I:Alg):KU
 |[.v (.one (.ptr 0 0)),.v (.agg [.p (.str m),.p (.str t),.p (.int .i64 mi),.p (.list .fld f),.p (.int .i64 le)]),.v (.one (.p (.list .byte body)))],[.obj 50 [.ptr 1 0,.ptr 2 0,.ptr 3 0,.ptr 4 0,.ptr 5 0],.pack [.obj 54 [.ptr 1 0,.ptr 2 0],.pack [.obj 124 [.row 1,.p (.int .i64 n)],.row .upl 81 l],.pack [.obj 156 [.row 1,.p (.int .i64 s)],.row .byte 5 b]],.abs (.cn c0),.abs (.cn c1),.abs (.cn c2),.abs (.cn c3)]=>(fun(l:List Upl) (b m t:Str) (f:List Fld) (body:Str)=>(some (.one ⟨I.hid (FOk f∧zJ l n∧n≤200000 - 20∧b.length≤100000∧body.length≤30000),(.ret (.v (.agg [.p (.int .i64 (I.hid ((ansG ⟨l,n,b,s⟩ m t f body).r.status))),.p (.list .fld (I.hid ((ansG ⟨l,n,b,s⟩ m t f body).r.fields))),.p (.list .byte (I.hid ((ansG ⟨l,n,b,s⟩ m t f body).r.body)))]))),[.obj 50 [.ptr 1 0,.ptr 2 0,.ptr 3 0,.ptr 4 0,.ptr 5 0],.pack [.obj 54 [.ptr 1 0,.ptr 2 0],.pack [.obj 124 [.row 1,.p (.int .i64 (I.hid ((ansG ⟨l,n,b,s⟩ m t f body).q.n)))],.row .upl 81 (I.hid ((ansG ⟨l,n,b,s⟩ m t f body).q.l))],.pack [.obj 156 [.row 1,.p (.int .i64 (I.hid ((ansG ⟨l,n,b,s⟩ m t f body).q.s)))],.row .byte 5 (I.hid ((ansG ⟨l,n,b,s⟩ m t f body).q.b))]],.abs (.cn c0),.abs (.cn c1),.abs (.cn c2),.abs (.cn c3)]⟩):Option CT)) l b m t f body
 |_,_=>none
set_option maxHeartbeats 1000000 in
theorem zcp:zx Tryz.prog 83 (Y8 alg):=by
 intro args hp r h;unfold Y8 at h;split at h<;>cases h
 rename_i m t mi f le body n l s b c0 c1 c2 c3
 revert f l;intro(f:List Fld) (l:List Upl)
 simp only [CT.Good,zh];intro hneed;obtain⟨hf,hs,hn,hb,hbo⟩:=hneed;generalize hr:ansG ⟨l,n,b,s⟩ m t f body=r;obtain⟨⟨st,fs,bd⟩,⟨l',n',b',s'⟩⟩:=r
 have hff:(XK ⟨l,n,b,s⟩ f body).r.fields=[]:=by
  unfold XK
  split
  · rfl
  · split
    · rfl
    · exact VB _ _ _ _
 unfold ansG rplT V6 at hr
 refine spH Tryz.func83 (by kernel_rfl) { cfgG with keep:=some [0,1,2,4,6]} [zmZ,zmY,zrY,zrX,qR,qQ,zr0,zrZ] (by kernel_rfl) ?_
 intro I X hI hX
 refine orcL ?_;go_invoke;refine orcS (by kernel_rfl) ?_
 simp only [zi,Nat.reduceAdd];rw [show([47,102,111,114,109]:Str)=zwb from rfl,show([80,79,83,84]:Str)=zbu from rfl]
 have hh: ∀ {α:Type} (y:α),I.hid y=y:=fun y=>by subst hI;rfl
 simp only [hh];generalize zfn t=o at *;generalize yC ⟨l,n,b,s⟩ m t f body=x at *;generalize XK ⟨l,n,b,s⟩ f body=y at *;obtain⟨x1,x2,⟨x3,x4,x5,x6⟩⟩:=x;obtain⟨⟨y1,y2,y3⟩,⟨y4,y5,y6,y7⟩⟩:=y;subst hI;dsimp only at hff hr ⊢;subst hff;simp only [nrmA,nrmB,nrlB,reduceCtorEq,V0.agg.injEq,HO.pack.injEq,HO.obj.injEq]
 (repeat' (first|refine ja ?_ ?_|intro _))<;>first|omega|exact jb|exact jc ‹False›|skip
 all_goals first
  |omega
  |with_reducible assumption
  |exact jM _
  |exact hf.1
  |(exact(hf.2 _ ‹_›).1)
  |(exact(hf.2 _ ‹_›).2)
  |(((repeat(first|rewrite [if_pos (by first|omega|assumption|(simp only [*,or_self,or_true,true_or,or_false,false_or,jf,jg,jd,je,and_self,and_true,true_and];done)|(simp only [*];omega)|(simp [*];done)|(simp [*];omega))] at hr|rewrite [if_neg (by first|omega|assumption|(simp only [*,or_self,or_true,true_or,or_false,false_or,jf,jg,jd,je,and_self,and_true,true_and];done)|(simp only [*];omega)|(simp [*];done)|(simp [*];omega))] at hr)));simp only [GA.mk.injEq,Rpl.mk.injEq,Sto.mk.injEq] at hr;obtain⟨⟨rfl,rfl,rfl⟩,rfl,rfl,rfl,rfl⟩:=hr;rfl)
def zma:Know Tryz.prog:=⟨83,Y8,zcp⟩
def zl9:Know Tryz.prog:=⟨83,fun I=>zu I (Y8 I),zf zcp⟩
end Go.Proofs.YtkjepecoodjbmaaGreatDoor
namespace Go.Proofs.YtkjepecoodjbmaaGreatDoor
open Go Go.Sep Go.Ab
set_option maxRecDepth 100000
def insC (j:Nat) (c d1 d2 d3:Cn):List HO:=match j with
 |0=>[.abs (.cn c),.abs (.cn d1),.abs (.cn d2),.abs (.cn d3)]
 |1=>[.abs (.cn d1),.abs (.cn c),.abs (.cn d2),.abs (.cn d3)]
 |2=>[.abs (.cn d1),.abs (.cn d2),.abs (.cn c),.abs (.cn d3)]
 |_=>[.abs (.cn d1),.abs (.cn d2),.abs (.cn d3),.abs (.cn c)]
def selC (j:Nat) (c0 c1 c2 c3:Cn) (k:Cn→Cn→Cn→Cn→Option CT):Option CT:=match j with
 |0=>k c0 c1 c2 c3
 |1=>k c1 c0 c2 c3
 |2=>k c2 c0 c1 c3
 |_=>k c3 c0 c1 c2
def isJ (k:Int) (j:Nat):Bool:=match k with|.ofNat m=>Nat.beq m j|.negSucc _=>false
theorem zoR {k:Int} {j:Nat} (h:isJ k j=true):k=(j:Int):=by
 cases k with
 |ofNat m=>cases jI h;rfl
 |negSucc m=>cases h
set_option maxHeartbeats 4000000 in
theorem zuE (j:Nat) (hj:j<4) (l:List Upl) (n:Int) (b:Str) (s:Int) (c d1 d2 d3:Cn) (ek:Int) (em et:Str) (ei:Int) (ef:List Fld) (en:Int) (eb ex ey ez ew:Str) (ec:Int) (hneed:zJ l n∧n≤200000 - 20∧b.length≤100000∧FOk c.h.fields∧c.body.length≤30000∧eb.length≤1000000∧(ek=2→c.own=true)):Spc Tryz.prog 46 [.v (.one (.ptr 0 0)),.v (.one (.ptr (j+2) 0)),.v (.agg [.p (.int .i64 ek),.p (.str em),.p (.str et),.p (.int .i64 ei),.p (.list .fld ef),.p (.int .i64 en),.p (.list .byte eb),.p (.str ex),.p (.str ey),.p (.str ez),.p (.nl ew),.p (.int .i64 ec)])] (.obj 50 [.ptr 1 0,.ptr 2 0,.ptr 3 0,.ptr 4 0,.ptr 5 0]:: .pack [.obj 54 [.ptr 1 0,.ptr 2 0],.pack [.obj 124 [.row 1,.p (.int .i64 n)],.row .upl 81 l],.pack [.obj 156 [.row 1,.p (.int .i64 s)],.row .byte 5 b]]::insC j c d1 d2 d3) (.ret (.v (.one (.p (.list .byte ((evG ⟨⟨l,n,b,s⟩,c.h,c.body,c.live,c.own,[]⟩ ⟨ek,⟨em,et,ei,ef,en⟩,eb,⟨ex,ey,ez,ew⟩,ec⟩).o)))))) (.obj 50 [.ptr 1 0,.ptr 2 0,.ptr 3 0,.ptr 4 0,.ptr 5 0]:: .pack [.obj 54 [.ptr 1 0,.ptr 2 0],.pack [.obj 124 [.row 1,.p (.int .i64 ((evG ⟨⟨l,n,b,s⟩,c.h,c.body,c.live,c.own,[]⟩ ⟨ek,⟨em,et,ei,ef,en⟩,eb,⟨ex,ey,ez,ew⟩,ec⟩).q.n))],.row .upl 81 ((evG ⟨⟨l,n,b,s⟩,c.h,c.body,c.live,c.own,[]⟩ ⟨ek,⟨em,et,ei,ef,en⟩,eb,⟨ex,ey,ez,ew⟩,ec⟩).q.l)],.pack [.obj 156 [.row 1,.p (.int .i64 ((evG ⟨⟨l,n,b,s⟩,c.h,c.body,c.live,c.own,[]⟩ ⟨ek,⟨em,et,ei,ef,en⟩,eb,⟨ex,ey,ez,ew⟩,ec⟩).q.s))],.row .byte 5 ((evG ⟨⟨l,n,b,s⟩,c.h,c.body,c.live,c.own,[]⟩ ⟨ek,⟨em,et,ei,ef,en⟩,eb,⟨ex,ey,ez,ew⟩,ec⟩).q.b)]]::insC j (⟨c.q,((evG ⟨⟨l,n,b,s⟩,c.h,c.body,c.live,c.own,[]⟩ ⟨ek,⟨em,et,ei,ef,en⟩,eb,⟨ex,ey,ez,ew⟩,ec⟩).h),((evG ⟨⟨l,n,b,s⟩,c.h,c.body,c.live,c.own,[]⟩ ⟨ek,⟨em,et,ei,ef,en⟩,eb,⟨ex,ey,ez,ew⟩,ec⟩).b),((evG ⟨⟨l,n,b,s⟩,c.h,c.body,c.live,c.own,[]⟩ ⟨ek,⟨em,et,ei,ef,en⟩,eb,⟨ex,ey,ez,ew⟩,ec⟩).i),((evG ⟨⟨l,n,b,s⟩,c.h,c.body,c.live,c.own,[]⟩ ⟨ek,⟨em,et,ei,ef,en⟩,eb,⟨ex,ey,ez,ew⟩,ec⟩).w)⟩) d1 d2 d3):=by
 obtain⟨hs,hn,hb,hf,hbo,heb,hw⟩:=hneed;obtain⟨q,⟨m,t,mi,f,le⟩,cb,li,w⟩:=c;dsimp only at hf hbo hw ⊢;have ha:=zql (q:=⟨l,n,b,s⟩) hs (m:=m) (t:=t) hf cb;generalize hr:evG ⟨⟨l,n,b,s⟩,⟨m,t,mi,f,le⟩,cb,li,w,[]⟩ ⟨ek,⟨em,et,ei,ef,en⟩,eb,⟨ex,ey,ez,ew⟩,ec⟩=r;obtain⟨⟨l',n',b',s'⟩,⟨m',t',mi',f',le'⟩,cb',li',w',o'⟩:=r;unfold evG zwl V6 zgZ at hr
 refine spH Tryz.func46 (by kernel_rfl) { cfgG with rl:=[0],fz:=[83],keep:=some [0,1,2,5,6,8]} [qR,qQ,zo8,zo7,zma,zl9] (by kernel_rfl) ?_
 intro I X hI hX
 obtain rfl|rfl|rfl|rfl:j=0∨j=1∨j=2∨j=3:=by omega
 all_goals cases w
 all_goals
  refine orcL ?_;go_invoke;refine orcS (by kernel_rfl) ?_
  simp only [zi,Nat.reduceAdd]
  have hh: ∀ {α:Type} (y:α),I.hid y=y:=fun y=>by subst hI;rfl
  simp only [hh];generalize ansG ⟨l,n,b,s⟩ m t f cb=y at *;obtain⟨⟨y1,y2,y3⟩,⟨y4,y5,y6,y7⟩⟩:=y;subst hI;dsimp only at hr ha ⊢;simp only [nrmA,nrmB,nrlB,reduceCtorEq,insC,V0.agg.injEq,HO.pack.injEq,HO.obj.injEq,HO.abs.injEq,Gh.cn.injEq,Cn.mk.injEq,Hd.mk.injEq]
  (repeat' (first|refine ja ?_ ?_|intro _))<;>first|omega|exact jb|exact jc ‹False›|skip
  all_goals first
   |omega
   |with_reducible assumption
   |exact jM _
   |exact ha.1.1
   |(exact(ha.1.2 _ ‹_›).1)
   |(exact(ha.1.2 _ ‹_›).2)
   |exact ha.2
   |exact hf.1
   |(exact(hf.2 _ ‹_›).1)
   |(exact(hf.2 _ ‹_›).2)
   |(exact(List.not_mem_nil ‹_›).elim)
   |(exact absurd (hw (by with_reducible assumption)) (by decide))
   |(((repeat(first|rewrite [if_pos (by first|omega|assumption|(simp only [*,or_self,or_true,true_or,or_false,false_or,jf,jg,jd,je,and_self,and_true,true_and];done)|(simp only [*];omega)|(simp [*];done)|(simp [*];omega))] at hr|rewrite [if_neg (by first|omega|assumption|(simp only [*,or_self,or_true,true_or,or_false,false_or,jf,jg,jd,je,and_self,and_true,true_and];done)|(simp only [*];omega)|(simp [*];done)|(simp [*];omega))] at hr)));simp only [GE.mk.injEq,Hd.mk.injEq,Sto.mk.injEq,List.nil_append] at hr;obtain⟨⟨rfl,rfl,rfl,rfl⟩,⟨rfl,rfl,rfl,rfl,rfl⟩,rfl,rfl,rfl,rfl⟩:=hr;rfl)
def wS (j:Nat) (I:Alg) (args:List D) (hp:List HO):Option CT:=match args,hp with
 | [.v (.one (.ptr 0 0)),.v (.one (.ptr k 0)),.v (.agg [.p (.int .i64 ek),.p (.str em),.p (.str et),.p (.int .i64 ei),.p (.list .fld ef),.p (.int .i64 en),.p (.list .byte eb),.p (.str ex),.p (.str ey),.p (.str ez),.p (.nl ew),.p (.int .i64 ec)])],[.obj 50 [.ptr 1 0,.ptr 2 0,.ptr 3 0,.ptr 4 0,.ptr 5 0],.pack [.obj 54 [.ptr 1 0,.ptr 2 0],.pack [.obj 124 [.row 1,.p (.int .i64 n)],.row .upl 81 l],.pack [.obj 156 [.row 1,.p (.int .i64 s)],.row .byte 5 b]],.abs (.cn c0),.abs (.cn c1),.abs (.cn c2),.abs (.cn c3)]=>(match Nat.beq k (j+2) with
   |true=>(fun(l:List Upl) (b:Str) (em:Str) (et:Str) (ef:List Fld) (eb:Str) (ex:Str) (ey:Str) (ez:Str) (ew:Str)=>(selC j c0 c1 c2 c3 fun c d1 d2 d3=>some (.one ⟨I.hid (zJ l n∧n≤200000 - 20∧b.length≤100000∧FOk c.h.fields∧c.body.length≤30000∧eb.length≤1000000∧(ek=2→c.own=true)),(.ret (.v (.one (.p (.list .byte (I.hid ((evG ⟨⟨l,n,b,s⟩,c.h,c.body,c.live,c.own,[]⟩ ⟨ek,⟨em,et,ei,ef,en⟩,eb,⟨ex,ey,ez,ew⟩,ec⟩).o))))))),(.obj 50 [.ptr 1 0,.ptr 2 0,.ptr 3 0,.ptr 4 0,.ptr 5 0]:: .pack [.obj 54 [.ptr 1 0,.ptr 2 0],.pack [.obj 124 [.row 1,.p (.int .i64 (I.hid ((evG ⟨⟨l,n,b,s⟩,c.h,c.body,c.live,c.own,[]⟩ ⟨ek,⟨em,et,ei,ef,en⟩,eb,⟨ex,ey,ez,ew⟩,ec⟩).q.n)))],.row .upl 81 (I.hid ((evG ⟨⟨l,n,b,s⟩,c.h,c.body,c.live,c.own,[]⟩ ⟨ek,⟨em,et,ei,ef,en⟩,eb,⟨ex,ey,ez,ew⟩,ec⟩).q.l))],.pack [.obj 156 [.row 1,.p (.int .i64 (I.hid ((evG ⟨⟨l,n,b,s⟩,c.h,c.body,c.live,c.own,[]⟩ ⟨ek,⟨em,et,ei,ef,en⟩,eb,⟨ex,ey,ez,ew⟩,ec⟩).q.s)))],.row .byte 5 (I.hid ((evG ⟨⟨l,n,b,s⟩,c.h,c.body,c.live,c.own,[]⟩ ⟨ek,⟨em,et,ei,ef,en⟩,eb,⟨ex,ey,ez,ew⟩,ec⟩).q.b))]]::insC j (⟨c.q,(I.hid ((evG ⟨⟨l,n,b,s⟩,c.h,c.body,c.live,c.own,[]⟩ ⟨ek,⟨em,et,ei,ef,en⟩,eb,⟨ex,ey,ez,ew⟩,ec⟩).h)),(I.hid ((evG ⟨⟨l,n,b,s⟩,c.h,c.body,c.live,c.own,[]⟩ ⟨ek,⟨em,et,ei,ef,en⟩,eb,⟨ex,ey,ez,ew⟩,ec⟩).b)),(I.hid ((evG ⟨⟨l,n,b,s⟩,c.h,c.body,c.live,c.own,[]⟩ ⟨ek,⟨em,et,ei,ef,en⟩,eb,⟨ex,ey,ez,ew⟩,ec⟩).i)),(I.hid ((evG ⟨⟨l,n,b,s⟩,c.h,c.body,c.live,c.own,[]⟩ ⟨ek,⟨em,et,ei,ef,en⟩,eb,⟨ex,ey,ez,ew⟩,ec⟩).w))⟩) d1 d2 d3)⟩):Option CT)) l b em et ef eb ex ey ez ew
   |false=>none)
 |_,_=>none
theorem uD (j:Nat) (hj:j<4):zx Tryz.prog 46 (wS j alg):=by
 intro args hp r h;unfold wS at h
 split at h
 · split at h
   · rename_i hk
     first|(cases zoR hk)|(cases jI hk)
     obtain rfl|rfl|rfl|rfl:j=0∨j=1∨j=2∨j=3:=by omega
     all_goals(cases h;exact fun hn=>zuE _ (by decide) _ _ _ _ _ _ _ _ _ _ _ _ _ _ _ _ _ _ _ _ hn)
   · cases h
 · cases h
def UG:Know Tryz.prog:=⟨46,wS 0,uD 0 (by decide)⟩
def UF:Know Tryz.prog:=⟨46,fun I=>zu I (wS 0 I),zf (uD 0 (by decide))⟩
def UE:Know Tryz.prog:=⟨46,wS 1,uD 1 (by decide)⟩
def UD:Know Tryz.prog:=⟨46,fun I=>zu I (wS 1 I),zf (uD 1 (by decide))⟩
def UC:Know Tryz.prog:=⟨46,wS 2,uD 2 (by decide)⟩
def UB:Know Tryz.prog:=⟨46,fun I=>zu I (wS 2 I),zf (uD 2 (by decide))⟩
def UA:Know Tryz.prog:=⟨46,wS 3,uD 3 (by decide)⟩
def Uz:Know Tryz.prog:=⟨46,fun I=>zu I (wS 3 I),zf (uD 3 (by decide))⟩
end Go.Proofs.YtkjepecoodjbmaaGreatDoor
namespace Go.Proofs.YtkjepecoodjbmaaGreatDoor
open Go Go.Sep Go.Ab
theorem zeB {r:Rpl} (h:ROk r):(zgZ r).length≤30000:=by
 unfold zgZ writeT
 split
 · rename_i hc
   have hw:Ud r.status≠[]:=fun e=>by unfold zbC at hc;rw [if_pos e] at hc;exact absurd hc (by decide)
   have h1:=(QG hw).2.2;have h2:=wL r.status;have h3:=wL (r.body.length:Int);have h4:=VA r.fields;have h5:=h.1.1;have h6:=h.2;simp only [zh0,zhi,jk,jh,ji];omega
 · exact jM _
theorem zuX (x:GE) (e:Evt):evG x e=⟨(evG ⟨x.q,x.h,x.b,x.i,x.w,[]⟩ e).q,(evG ⟨x.q,x.h,x.b,x.i,x.w,[]⟩ e).h,(evG ⟨x.q,x.h,x.b,x.i,x.w,[]⟩ e).b,(evG ⟨x.q,x.h,x.b,x.i,x.w,[]⟩ e).i,(evG ⟨x.q,x.h,x.b,x.i,x.w,[]⟩ e).w,x.o++(evG ⟨x.q,x.h,x.b,x.i,x.w,[]⟩ e).o⟩:=by
 unfold evG
 repeat' split
 all_goals simp
theorem zwm {x:GE} (h1:zJ x.q.l x.q.n) (h2:FsOk x.h.fields) (e:Evt):(evG ⟨x.q,x.h,x.b,x.i,x.w,[]⟩ e).o.length≤30000:=by
 unfold evG
 repeat' split
 · exact jM _
 · exact jM _
 · exact zeB (zql h1 h2 _)
 · exact zeB (zjH _ _ (jM _))
 · exact jM _
def fdK (c:Cn):Int:=if c.q.pos=4 then 18 else 0
def fdO (q:Sto) (c:Cn) (x:Str):Str:=if c.q.pos=4 then [] else(fedE q c x).o
def fdQ (q:Sto) (c:Cn) (x:Str):Sto:=if c.q.pos=4 then q else(fedE q c x).q
def fdC (q:Sto) (c:Cn) (x:Str):Cn:=if c.q.pos=4 then c else fedC q c x
def FdN (q:Sto) (c:Cn) (x:Str):Prop:=∃ (N:Nat) (m:Int),SOk q m∧CnI c N∧N+x.length≤30000∧m+12 * x.length≤199980
structure FdA (x0:GE) (J:List Evt) (i:Nat) (l:List Upl) (n:Int) (b:Str) (s:Int) (c:Cn) (o:Str) (q1:Rq):Prop where
 le:i≤J.length
 ev:(⟨⟨l,n,b,s⟩,c.h,c.body,c.live,c.own,o⟩:GE)=evsG x0 (J.take i)
 cq:c.q=q1
 ol:o.length≤30000 * i
structure FdJ (x0:GE) (J:List Evt):Prop where
 ok: ∃ (N:Nat) (m:Int),EOk x0 m N∧N+zF J≤30000∧m+12 * cnt3 J≤199980
 ob:EvO J
 mw:mayW x0.w J
 o0:x0.o=[]
 ln:J.length≤1000000
theorem zie (J:List Evt) (i:Nat):zF (J.take i)≤zF J:=by
 have:J=J.take i++J.drop i:=(List.take_append_drop i J).symm;have h:=yu (J.take i) (J.drop i);rw [← this] at h;omega
theorem zp0 (J:List Evt) (i:Nat):cnt3 (J.take i)≤cnt3 J:=by
 have h:=Zz (J.take i) (J.drop i);rw [List.take_append_drop] at h;omega
theorem zwj {q:Sto} {c:Cn} {x:Str} (h:FdN q c x):FdJ ⟨q,c.h,c.body,c.live,c.own,[]⟩ (yK (zO c.q x).out)∧rqN0 c.q x:=by
 obtain⟨N,m,h1,h2,h3,h4⟩:=h
 obtain⟨e1,e2,e3,e4⟩:=zpw h2 (b:=x) (by omega)
 exact⟨⟨⟨N,m,⟨h1,h2.2.1,h2.2.2.1⟩,by omega,by omega⟩,e1,(ztk h2 x).1,rfl,by omega⟩,N,h2.1,by omega⟩
theorem zxc {x0:GE} {J:List Evt} (h:FdJ x0 J) (q1:Rq) {l:List Upl} {n:Int} {b:Str} {s:Int} {hd:Hd} {bd:Str} {li w:Bool} (hx:x0=⟨⟨l,n,b,s⟩,hd,bd,li,w,[]⟩):FdA x0 J 0 l n b s ⟨q1,hd,bd,li,w⟩ [] q1:=⟨jM _,by subst hx;rfl,rfl,jM _⟩
theorem ztn {x0:GE} {J:List Evt} (hJ:FdJ x0 J) {i:Nat} {l:List Upl} {n:Int} {b:Str} {s:Int} {c:Cn} {o:Str} {q1:Rq} (h:FdA x0 J i l n b s c o q1):zJ l n∧n≤200000 - 20∧b.length≤100000∧FOk c.h.fields∧c.body.length≤30000:=by
 obtain⟨N,m,h1,h2,h3⟩:=hJ.ok;have h4:=zif (J.take i) h1 fun e he=>hJ.ob e (List.mem_of_mem_take he);rw [← h.ev] at h4;have h5:=zie J i;have h6:=zp0 J i;obtain⟨⟨g1,g2,g3,_⟩,g4,g5⟩:=h4
 exact⟨g1,by dsimp only at g3;omega,g2,g4,by dsimp only at g5;omega⟩
theorem zxb {x0:GE} {J:List Evt} (hJ:FdJ x0 J) {i:Nat} {l:List Upl} {n:Int} {b:Str} {s:Int} {c:Cn} {o:Str} {q1:Rq} (h:FdA x0 J i l n b s c o q1) (hi:i<J.length) (d:Evt):
  ((J.getD i d).bytes.length≤1000000∧((J.getD i d).kind=2→c.own=true))∧∀ r,evG ⟨⟨l,n,b,s⟩,c.h,c.body,c.live,c.own,[]⟩ (J.getD i d)=r→r.o.length≤30000∧FdA x0 J (i+1) r.q.l r.q.n r.q.b r.q.s ⟨c.q,r.h,r.b,r.i,r.w⟩ (o++r.o) q1:=by
 have e:J.getD i d=J[i]:=by simp [hi]
 obtain⟨N,m,h1,h2,h3⟩:=hJ.ok;have ok:=ztn hJ h;rw [e];refine⟨⟨?_,fun k=> ?_⟩,fun r hr=>⟨?_,hi,?_,h.cq,?_⟩⟩
 · have:=VH (List.getElem_mem hi)
   omega
 · have hw:=zoC hJ.mw hi k
   rw [← zto,← h.ev] at hw;exact hw
 · rw [← hr]
   exact zwm (x:=⟨⟨l,n,b,s⟩,c.h,c.body,c.live,c.own,[]⟩) ok.1 ok.2.2.2.1 _
 · rw [jB hi,VF,← h.ev]
   show _=evG _ _
   rw [zuX];dsimp only;rw [hr]
 · have h7:r.o.length≤30000:=by
    rw [← hr];exact zwm (x:=⟨⟨l,n,b,s⟩,c.h,c.body,c.live,c.own,[]⟩) ok.1 ok.2.2.2.1 _
   have:=h.ol;rw [jk];omega
theorem zuR {q:Sto} {c0:Cn} {x:Str} {l:List Upl} {n:Int} {b:Str} {s:Int} {c:Cn} {o:Str} {i:Nat} (h:FdA ⟨q,c0.h,c0.body,c0.live,c0.own,[]⟩ (yK (zO c0.q x).out) i l n b s c o (zO c0.q x)) (hi: ¬ i<(yK (zO c0.q x).out).length) (hp: ¬ c0.q.pos=4):(⟨l,n,b,s⟩:Sto)=fdQ q c0 x∧c=fdC q c0 x∧o=fdO q c0 x:=by
 have e:=h.ev
 rw [jq (by omega)] at e
 have e':(⟨⟨l,n,b,s⟩,c.h,c.body,c.live,c.own,o⟩:GE)=fedE q c0 x:=e;unfold fdQ fdC fdO fedC;rw [if_neg hp,if_neg hp,if_neg hp,← e'];refine⟨rfl,?_,rfl⟩;have:=h.cq;cases c;simp only at this;rw [this]
end Go.Proofs.YtkjepecoodjbmaaGreatDoor
namespace Go.Proofs.YtkjepecoodjbmaaGreatDoor
open Go Go.Sep Go.Ab
theorem zpJ (x:GE) (s t:Str):evG (evG x (evB s)) (evB t)=evG x (evB (s++t)):=by
 simp [evG,evB]
theorem zkQ (x:GE) {e:Evt} (h:e.kind=2):evG x e=evG x (evB e.bytes):=by
 simp [evG,evB,h]
theorem zmo (x:GE) (o:List Evt) (e:Evt):evsG x (uy o e)=evsG x (o++[e]):=by
 rcases List.eq_nil_or_concat o with rfl|⟨z,y,rfl⟩
 · rfl
 · rw [List.concat_eq_append,xu]
   split
   · rename_i h
     rw [VF,jo,VF]
     show evG (evsG x z) (evB (y.bytes++e.bytes))=evG (evG (evsG x z) y) e
     rw [zkQ _ h.1,zkQ (evsG x z) h.2,zpJ]
   · rfl
theorem zcL (x:GE): ∀ (l o:List Evt),evsG x (l.foldl uy o)=evsG x (o++l)
 |[],o=>by simp
 | e::l,o=>by
   rw [List.foldl_cons,zcL x l,VF,zmo,← VF];simp
theorem zpH (x:GE) (l:List Evt):evsG x (yK l)=evsG x l:=zcL x l []
theorem ze1: ∀ (b:Str) {q:Rq},q.pos=4→rF q b=q
 |[],_,_=>rfl
 | c ::b,q,h=>by
   have:rqF q c=q:=by
    unfold rqF
    rw [if_neg (by omega),if_neg (by omega),if_neg (by omega)]
   show rF (rqF q c) b=q
   rw [this];exact ze1 b h
theorem zuQ (q:Sto) (c:Cn) (b:Str):fedE q c b=evsG ⟨q,c.h,c.body,c.live,c.own,[]⟩ (zO c.q b).out:=zpH _ _
theorem zd1 {q:Sto} {c:Cn} {b:Str} (h:c.q.pos=4):fedE q c b=⟨q,c.h,c.body,c.live,c.own,[]⟩∧zO c.q b= { c.q with out:=[]}:=by
 have:zO c.q b= { c.q with out:=[]}:=ze1 b (q:= { c.q with out:=[]}) h
 rw [zuQ,this];exact⟨rfl,rfl⟩
def zgU (c:Cn):Cn:= { c with q:=znY c.q}
theorem ztm (q:Sto) (c:Cn) (b:Str):fdQ q c b=(fedE q c b).q:=by
 unfold fdQ
 split
 · rename_i h;rw [(zd1 h).1]
 · rfl
theorem zwk (q:Sto) (c:Cn) (b:Str):zgU (fdC q c b)=zgU (fedC q c b):=by
 unfold fdC
 split
 · rename_i h
   unfold fedC;rw [(zd1 (q:=q) h).1,(zd1 (q:=q) h).2];rfl
 · rfl
theorem zwS:SOk ⟨[],0,[],0⟩ 0:=⟨Q7,by decide,by decide,by decide,by decide⟩
theorem zsw {c d:Cn} (h:zgU c=zgU d) {k:Nat} (hc:CnI c k):CnI d k:=by
 obtain⟨cq,ch,cb,ci,cw⟩:=c;obtain⟨dq,dh,db,di,dw⟩:=d;simp only [zgU,Cn.mk.injEq] at h;obtain⟨h1,rfl,rfl,rfl,rfl⟩:=h
 have hp:cq.pos=dq.pos:=by show(znY cq).pos=(znY dq).pos;rw [h1]
 refine⟨?_,hc.2.1,hc.2.2.1,fun k=>hc.2.2.2 (by rw [hp];exact k)⟩
 have:=hc.1
 have e:({ cq with out:=[]}:Rq)= { dq with out:=[]}:=h1
 rw [e] at this;exact this
theorem zxa {q:Sto} {m:Int} {c:Cn} {k:Nat} (hq:SOk q m) (h:CnI c k) {b:Str} (hb:k+b.length≤1000000):SOk (fdQ q c b) (m+12 * b.length)∧CnI (fdC q c b) (k+b.length):=by
 obtain⟨h1,h2⟩:=zwi hq h hb;rw [ztm];exact⟨h1,zsw (zwk q c b).symm h2⟩
end Go.Proofs.YtkjepecoodjbmaaGreatDoor
namespace Go.Proofs.YtkjepecoodjbmaaGreatDoor
open Go Go.Sep Go.Ab
def rqHd (m t:Str):Str:=m++[32]++t++[32,72,84,84,80,47,49,46,49]
def rqwC (m t:Str) (fs:List Fld) (b:Str):Int:=
 if Xo m=false then 6
 else if Lib.hasPrefix t [47]=false then 5
 else if Lib.containsAny t [32,9]=true then 5
 else if Xw t=false then 5
 else if 200<(rqHd m t).length then 4
 else if 4000<b.length then 4
 else if 15<fs.length then 8
 else if 0<(valsF fs Yu).length+(valsF fs zc3).length then 12
 else if(oneF (valsF fs TU)).2≠0 then 13
 else badF fs
def rqwT (m t:Str) (fs:List Fld) (b:Str):Str:=
 if rqwC m t fs b=0 then rqHd m t++[13,10]++uQ fs++zhi b.length++b else []
end Go.Proofs.YtkjepecoodjbmaaGreatDoor
namespace Go.Proofs.YtkjepecoodjbmaaGreatDoor
open Go Go.Sep Go.Ab Go.Jrn
def CanE (e:Ent):Prop:=∃ n x,(0≤x.op∧x.op≤5)∧e=zwQ n x
def st (W:List Ent):List Upl × Int:=replay ([],0) W
structure Hist (q:Sto) (W:List Ent) (k:Nat):Prop where
 may: ∀ e ∈ W,mayM e=true
 bytes:q.b=zG W
 rep:st W=(q.l,q.n)
 acc: ∀ j (h:j<W.length),zfe (st (W.take j)).1 (st (W.take j)).2 W[j]=0∧CanE W[j]
 kle:k≤W.length
 sure:q.s=(zG (W.take k)).length
 b:q.b.length≤100000
theorem zss (e:Ent):1≤(encB e).length:=by
 have:=xg ((enc3 e).length+1);unfold encB;rw [jk];omega
theorem zcP: ∀ W:List Ent,W.length≤(zG W).length
 |[]=>jL _
 | e::W=>by
   have:=zcP W;have:=zss e;simp only [zG,jk,jh];omega
theorem zih (W:List Ent) (k:Nat):(zG (W.take k)).length≤(zG W).length:=by
 have:=congrArg (fun l=>(zG l).length) (List.take_append_drop k W);simp only [Zx,jk] at this;omega
theorem zuu {q:Sto} {W:List Ent} {k:Nat} (h:Hist q W k):zxm q:=by
 have h1:=WL W ([],0) Q7;have h2:=Rz W ([],0);have h3:=h.rep;unfold st at h3;rw [h3] at h1 h2;have h4:=zcP W;have h5:=h.b;rw [h.bytes] at h5;have h6:=zih W k;refine⟨h1,?_,h.b,?_,?_⟩
 · simp only at h2;omega
 · rw [h.sure];omega
 · rw [h.sure,h.bytes];omega
theorem zrS:Hist ⟨[],0,[],0⟩ [] 0:=⟨fun _ h=>(by cases h),rfl,rfl,fun j h=>absurd h (Nat.not_lt_zero _),jL _,rfl,by decide⟩
theorem zoY {q:Sto} {W:List Ent} {k:Nat} (h:Hist q W k):Hist ⟨q.l,q.n,q.b,(q.b.length:Int)⟩ W W.length:=
 ⟨h.may,h.bytes,h.rep,h.acc,jL _,by rw [List.take_length];show(q.b.length:Int)=_;rw [h.bytes],h.b⟩
theorem zl2 {q:Sto} {W:List Ent} {k:Nat} (h:Hist q W k) {e:Ent} (hc:CanE e) (h0:wrtC q.l q.n q.b e=0):
  Hist ⟨wrtL q.l q.n q.b e,wrtN q.l q.n q.b e,wrtB q.l q.n q.b e,q.s⟩ (W++[e]) k:=by
 obtain⟨h1,h2,h3⟩:=zcV h0;have hrep:=h.rep;refine⟨fun x hx=> ?_,?_,?_,fun j hj=> ?_,?_,?_,?_⟩
 · rcases List.mem_append.1 hx with hx|hx
   · exact h.may x hx
   · rw [List.mem_singleton.1 hx];exact h2
 · show wrtB q.l q.n q.b e=_
   unfold wrtB;rw [if_pos h0,h.bytes,Zx]
   simp [zG]
 · show st (W++[e])=(wrtL q.l q.n q.b e,wrtN q.l q.n q.b e)
   unfold st at *;rw [Uk,hrep];unfold wrtL wrtN;rw [if_pos h0,if_pos h0];rfl
 · rw [jk] at hj
   rcases Nat.lt_or_ge j W.length with hl|hl
   · rw [List.take_append_of_le_length (by omega),List.getElem_append_left hl]
     exact h.acc j hl
   · have:j=W.length:=by simp at hj;omega
     subst this
     have e1:(W++[e]).take W.length=W:=by simp
     have e2:(W++[e])[W.length]'(by simp)=e:=by simp
     rw [e1,e2,hrep];exact⟨h1,hc⟩
 · rw [jk];have:=h.kle;omega
 · show q.s=_
   rw [List.take_append_of_le_length h.kle];exact h.sure
 · show(wrtB q.l q.n q.b e).length≤100000
   exact qV e h.b
def TS (q:Sto) (keep:Int):Nat:=(q.s+min (max keep 0) (q.b.length - q.s)).toNat
theorem zl3 {q:Sto} {W:List Ent} {k:Nat} (h:Hist q W k) (keep:Int): ∃ j,k≤j∧j≤W.length∧(∀ i,i<W.length→((zG (W.take (i+1))).length≤TS q keep↔i<j))∧
  crsP q.b q.s keep=st (W.take j)∧crsB q.b q.s keep=zG (W.take j)∧
  Hist ⟨(crsP q.b q.s keep).1,(crsP q.b q.s keep).2,crsB q.b q.s keep,((crsB q.b q.s keep).length:Int)⟩ (W.take j) j:=by
 have hs:=zuu h;have hs0:=hs.s0;have hs1:=hs.s1;have hb:=h.bytes
 have hK:TS q keep≤(zG W).length:=by unfold TS;rw [hb] at *;omega
 have hK2:(zG (W.take k)).length≤TS q keep:=by have:=h.sure;unfold TS;omega
 obtain⟨j,h1,h2,h3,h4,h5⟩:=torn W (TS q keep) h.may hK
 have hcr:crB q.b q.s keep=(zG W).take (TS q keep):=by unfold crB TS;rw [hb]
 have hkj:k≤j:=by
  rcases Nat.lt_or_ge j k with hlt|hge
  · exfalso
    have:=(h3 (k - 1) (by have:=h.kle;omega)).1 (by rw [show k - 1+1=k by omega];exact hK2)
    omega
  · exact hge
 have hP:crsP q.b q.s keep=st (W.take j):=by unfold crsP crsE;rw [hcr,h4];rfl
 have hlen:((zG W).take (TS q keep)).length=TS q keep:=by rw [jv];omega
 have hu:QI ((zG W).take (TS q keep))=((zG (W.take j)).length:Int):=by unfold QI;rw [hlen];omega
 have hpre:(zG W).take (zG (W.take j)).length=zG (W.take j):=by
  have:zG W=zG (W.take j)++zG (W.drop j):=by rw [← Zx,List.take_append_drop]
  rw [this];simp
 have hB:crsB q.b q.s keep=zG (W.take j):=by
  unfold crsB cuB;rw [hcr,hu,hlen]
  split
  · rw [jJ,List.take_take,Nat.min_eq_left h2,hpre]
  · rw [show TS q keep=(zG (W.take j)).length by omega,hpre]
 refine⟨j,hkj,h1,h3,hP,hB,?_⟩
 have hjl:(W.take j).length=j:=by rw [jv];omega
 refine⟨fun e he=>h.may e ((List.take_sublist j W).subset he),hB,hP.symm,fun i hi=> ?_,by rw [hjl];exact jL _,?_,?_⟩
 · rw [List.take_take,List.getElem_take,Nat.min_eq_left (by omega)]
   exact h.acc i (by omega)
 · show((crsB q.b q.s keep).length:Int)=_
   rw [hB,List.take_take,Nat.min_self]
 · show(crsB q.b q.s keep).length≤100000
   have:=zk0 q.b q.s keep;have:=h.b;omega
end Go.Proofs.YtkjepecoodjbmaaGreatDoor
namespace Go.Proofs.YtkjepecoodjbmaaGreatDoor
open Go Go.Sep Go.Ab Go.Jrn
structure PO where (c:Int) (b u:Str)
structure PS where (g:GS) (t:List Int)
def ps0:PS:=⟨gs0,[]⟩
def zlv (id:Int):Str:=[47,116,97,107,101,47]++decS id
def zoX:Fld:=⟨[72,111,115,116],[105,110,108,97,110,100]⟩
def znh (x:Str):List Fld:=if x=[] then [zoX] else [zoX,⟨zlq,x⟩]
def begE (id:Int):Ent:=⟨5,id,0,[]⟩
def endE (id:Int):Ent:=⟨6,id,0,[]⟩
def Zb (q:Sto) (id:Int):Sto:=if wsC q (begE id)≠0 then wsS q (begE id) else syS (wsS q (begE id))
def zni (q:Sto) (id:Int):Upl:=getU (Zb q id).l id
def zbr (q:Sto) (id:Int):PO:=
 if wsC q (begE id)≠0 then⟨wsC q (begE id),[],[]⟩
 else⟨rqwC zbu (zlv id) (znh (zni q id).note) (zni q id).bytes,[],rqwT zbu (zlv id) (znh (zni q id).note) (zni q id).bytes⟩
def zeT (q:Sto) (id:Int) (t:List Int):List Int:=if wsC q (begE id)≠0 then t else t++[id]
def zcZ (q:Sto) (id:Int):Sto:=if wsC q (endE id)≠0 then wsS q (endE id) else syS (wsS q (endE id))
def crsQ (q:Sto) (k:Int):Sto:=⟨(crsP q.b q.s k).1,(crsP q.b q.s k).2,crsB q.b q.s k,((crsB q.b q.s k).length:Int)⟩
def GS.set (g:GS) (q:Sto):GS:= { g with q:=q}
def doG (g:GS) (x:Stp):GS:=
 if x.kind=1 then(if inG x.conn then g.put x.conn (fdC g.q (g.at x.conn) x.bytes) (fdQ g.q (g.at x.conn) x.bytes) else g)
 else if x.kind=2 then(if inG x.conn then g.put x.conn cn0 (XI g.q (g.at x.conn)) else g)
 else if x.kind=3 then g.set (Zb g.q x.n)
 else if x.kind=4 then g.set (zcZ g.q x.n)
 else if x.kind=5 then⟨crsQ g.q x.n,cn0,cn0,cn0,cn0⟩
 else g
def doT (p:PS) (x:Stp):List Int:=if x.kind=3 then zeT p.g.q x.n p.t else p.t
def doO (g:GS) (x:Stp):PO:=
 if x.kind=1 then(if inG x.conn then⟨fdK (g.at x.conn),fdO g.q (g.at x.conn) x.bytes,[]⟩ else⟨1,[],[]⟩)
 else if x.kind=2 then⟨if inG x.conn then 0 else 1,[],[]⟩
 else if x.kind=3 then zbr g.q x.n
 else if x.kind=4 then⟨wsC g.q (endE x.n),[],[]⟩
 else if x.kind=5 then⟨0,[],[]⟩
 else⟨11,[],[]⟩
def doP (p:PS) (x:Stp):PS:=⟨doG p.g x,doT p x⟩
structure GsI (g:GS) (m:Int) (N:Nat):Prop where
 q:SOk g.q m
 c0:CnI g.c0 N
 c1:CnI g.c1 N
 c2:CnI g.c2 N
 c3:CnI g.c3 N
theorem gi_0:GsI gs0 0 0:=⟨zwS,zbz,zbz,zbz,zbz⟩
theorem zdS {g:GS} {m m':Int} {N N':Nat} (h:GsI g m N) (h1:m≤m') (h2:N≤N'):GsI g m' N':=
 ⟨yX h.q h1,vK h.c0 h2,vK h.c1 h2,vK h.c2 h2,vK h.c3 h2⟩
theorem zv7 {g:GS} {m:Int} {N:Nat} (h:GsI g m N) (k:Int):CnI (g.at k) N:=by
 unfold GS.at
 repeat' split
 all_goals first|exact h.c0|exact h.c1|exact h.c2|exact h.c3
theorem ztc {g:GS} {m m':Int} {N N':Nat} (h:GsI g m N) (hN:N≤N') (k:Int) {c:Cn} {q:Sto} (hc:CnI c N') (hq:SOk q m'):GsI (g.put k c q) m' N':=by
 have hi: ∀ {p:Prop} [Decidable p] {d:Cn},CnI d N→CnI (if p then c else d) N':=fun hd=>by
  split
  · exact hc
  · exact vK hd hN
 exact⟨hq,hi h.c0,hi h.c1,hi h.c2,hi h.c3⟩
theorem ztb {g:GS} {m m':Int} {N:Nat} (h:GsI g m N) {q:Sto} (hq:SOk q m'):GsI (g.set q) m' N:=⟨hq,h.c0,h.c1,h.c2,h.c3⟩
theorem zkS: ∀ W:List Ent,4 * W.length≤(zG W).length
 |[]=>jL _
 | e ::W=>by
   have h1:=zkS W;have h2:=xg ((enc3 e).length+1);have h3:=xg (e.kind+1).toNat;have h4:=xg (e.id+1).toNat;have h5:=xg (e.n+1).toNat
   have h6:4≤(encB e).length:=by
    unfold encB;rw [jk]
    have:3≤(enc3 e).length:=by unfold enc3;simp only [jk];omega
    omega
   simp only [zG,jk,jh];omega
theorem ztP {q:Sto} {m:Int} (h:SOk q m) (k:Int):SOk (crsQ q k) 25000:=by
 have h1:=zee q.b q.s k;have h3:=Jrn.zea _ (crB q.b q.s k) (jL _);have h4:=congrArg List.length h3.1;rw [jk] at h4;have h5:=zkS (crsE q.b q.s k);have h6:=Rz (crsE q.b q.s k) ([],0);have h7:=zk0 q.b q.s k;have h8:=h.2.1;unfold crsE at h5
 refine⟨WL _ ([],0) Q7,by show(crsB q.b q.s k).length≤_;omega,?_,Int.natCast_nonneg _,Int.le_refl _⟩
 show(replay ([],0) (crsE q.b q.s k)).2≤_
 dsimp only at h6;unfold crsE at h6 ⊢;omega
theorem zqQ {q:Sto} {m:Int} (h:SOk q m) (id:Int):SOk (Zb q id) m:=by
 have h1:SOk (wsS q (begE id)) m:=ZW h (by simp [begE])
 unfold Zb
 split
 · exact h1
 · exact U6 h1
theorem zqP {q:Sto} {m:Int} (h:SOk q m) (id:Int):SOk (zcZ q id) m:=by
 have h1:SOk (wsS q (endE id)) m:=ZW h (by simp [endE])
 unfold zcZ
 split
 · exact h1
 · exact U6 h1
theorem zqR {q:Sto} {m:Int} (h:SOk q m) (c:Cn):SOk (XI q c) (m+1):=by
 unfold XI
 split
 · exact zeO h _ _ _ _
 · exact yX h (by omega)
theorem zw9 {g:GS} {m:Int} {N:Nat} (h:GsI g m N) (hm:25000≤m) (x:Stp) (hb:N+x.bytes.length≤1000000):GsI (doG g x) (m+12 * x.bytes.length+1) (N+x.bytes.length):=by
 have h0:GsI g (m+12 * x.bytes.length+1) (N+x.bytes.length):=zdS h (by omega) (by omega)
 unfold doG
 repeat' with_reducible split
 · have:=zxa h.q (zv7 h x.conn) (b:=x.bytes) hb
   exact ztc h (by omega) _ this.2 (yX this.1 (by omega))
 · exact h0
 · exact ztc h (by omega) _ (vK zbz (by omega)) (yX (zqR h.q _) (by omega))
 · exact h0
 · exact ztb h0 (yX (zqQ h.q _) (by omega))
 · exact ztb h0 (yX (zqP h.q _) (by omega))
 · have h1:CnI cn0 (N+x.bytes.length):=vK zbz (by omega)
   exact⟨yX (ztP h.q _) (by omega),h1,h1,h1,h1⟩
 · exact h0
end Go.Proofs.YtkjepecoodjbmaaGreatDoor
namespace Go.Proofs.YtkjepecoodjbmaaGreatDoor
open Go Go.Sep Go.Ab Go.Jrn
theorem zl4 {q:Sto} {W:List Ent} (h:Hist q W W.length) (keep:Int):(crsP q.b q.s keep)=(q.l,q.n)∧crsB q.b q.s keep=q.b∧q.s=(q.b.length:Int):=by
 obtain⟨j,h1,h2,h3,h4,h5,h6⟩:=zl3 h keep
 have hj:j=W.length:=by omega
 subst hj;rw [List.take_length] at h4 h5
 refine⟨by rw [h4,h.rep],by rw [h5,h.bytes],?_⟩
 have:=h.sure;rw [List.take_length] at this;rw [this,h.bytes]
end Go.Proofs.YtkjepecoodjbmaaGreatDoor
namespace Go.Proofs.YtkjepecoodjbmaaGreatDoor
open Go Go.Sep Go.Ab Go.Jrn
theorem zva {l:List Upl} {id:Int} {u:Upl} (h:atU l id<l.length) (hu:u.id=id):atU (l.set (atU l id) u) id=atU l id:=by
 have hlen:(l.set (atU l id) u).length=l.length:=List.length_set ..
 have h2: ∀ (l:List Upl) (i:Nat),i<l.length→(l.getD i upl0).id=u.id→(l.set i u).findIdx (fun x=>x.id == id)=l.findIdx (fun x=>x.id == id):=by
  intro l
  induction l with
  |nil=>intro i hi;simp at hi
  | cons a r ih=>
    intro i hi hid
    cases i with
    | zero=>
      simp only [List.getD_cons_zero] at hid
      simp [List.set,List.findIdx_cons,hid]
    | succ i=>
      simp only [jh] at hi;simp only [List.getD_cons_succ] at hid;simp only [List.set,List.findIdx_cons]
      rw [ih i (by omega) hid]
 have h3:=YC h;unfold yg at h3
 exact h2 l (atU l id) h (by rw [hu];exact h3)
theorem zgM (e:Ent) (hk:1≤e.kind∧e.kind≤6):(encM e).length≤31+e.text.length∧(e.n=0→(encM e).length≤22+e.text.length):=by
 unfold encM
 split
 · have h1:=xg ((enc3 e).length+1)
   have h2:=xg (e.id+1).toNat;have h3:=xg (e.n+1).toNat
   have h4:(sev (e.kind+1).toNat).length=1:=by rw [ZY (by omega)];rfl
   unfold encB enc3;unfold enc3 at h1
   have h5:e.n=0→(sev (e.n+1).toNat).length=1:=fun h=>by rw [h];rfl
   simp only [jk] at *
   refine⟨by omega,fun h=> ?_⟩
   have:=h5 h;omega
 · exact⟨by simp,fun _=>by simp⟩
theorem zpR {q:Sto} {u:Upl} {body:Str} {nv sz:Int} (hb:getB q.l u.id=true) (hu:getU q.l u.id=u) (hnv:nv=(u.bytes.length:Int)) (hid:1≤u.id∧u.id≤200000)
  (h1:wsC q (apE u.id body)=0) (hz:0≤sz) (hz2:sz≤2000) (hz3:nv+(body.length:Int)≤sz) (hus:u.size<0) (hr:Uj q.b ((body.length:Int)+60)=true):wsC (wsS q (apE u.id body)) ⟨3,u.id,sz,[]⟩=0:=by
 have hat:atU q.l u.id<q.l.length:=by unfold getB at hb;simpa using hb
 have hup:yg q.l u.id=u:=by unfold getU at hu;rwa [if_pos hat] at hu
 unfold Uj at hr
 have hroom:0≤(body.length:Int)+60∧(body.length:Int)+60≤100000 - (q.b.length:Int):=by simpa using hr
 unfold wsC at h1 ⊢
 have hl:(wsS q (apE u.id body)).l=q.l.set (atU q.l u.id) { yg q.l u.id with bytes:=(yg q.l u.id).bytes++body}:=by
  show wrtL _ _ _ _=_
  unfold wrtL;rw [if_pos h1]
  have hap:appC q.l u.id (getU q.l u.id).bytes.length body=0:=by
   unfold wrtC at h1
   split at h1
   · contradiction
   · rename_i hc
     simp only [Decidable.not_not] at hc;exact hc
  show zat _ _ _=_
  unfold zat
  rw [if_neg (by simp [apE]),if_pos (by simp [apE])]
  show appL q.l u.id (getU q.l u.id).bytes.length body=_
  unfold appL;rw [if_pos hap]
 have hB:(wsS q (apE u.id body)).b=q.b++encB (apE u.id body):=by
  show wrtB _ _ _ _=_
  unfold wrtB;rw [if_pos h1]
 have hat2:atU (wsS q (apE u.id body)).l u.id=atU q.l u.id:=by rw [hl];exact zva hat (by rw [hup])
 have hlen:(wsS q (apE u.id body)).l.length=q.l.length:=by rw [hl,List.length_set]
 have hup2:yg (wsS q (apE u.id body)).l u.id= { u with bytes:=u.bytes++body}:=by
  unfold yg;rw [hat2,hl]
  simp [jH,hat,hup]
 unfold wrtC
 have hp:zfe (wsS q (apE u.id body)).l (wsS q (apE u.id body)).n ⟨3,u.id,sz,[]⟩=0:=by
  show decC (wsS q (apE u.id body)).l u.id sz=0
  unfold decC
  rw [hat2,hlen,hup2,if_neg (by omega),if_neg (by simp only;omega),if_neg (by omega),if_neg (by simp only [jk];omega)]
 have hm:mayM (apE u.id body)=true:=by
  unfold wrtC at h1
  rw [if_neg (by intro hc;rw [if_pos hc] at h1;exact hc h1)] at h1
  unfold encC at h1
  cases hq:mayM (apE u.id body) with
  |true=>rfl
  |false=>rw [hq] at h1;simp at h1
 have he:encC ⟨3,u.id,sz,[]⟩=0:=by
  unfold encC
  rw [if_pos (by unfold mayM few;simp only [jK,decide_eq_true_eq,ji];omega)]
 rw [hp,he,if_neg (by simp),if_neg (by simp)]
 have e1:=(zgM (apE u.id body) (by simp [apE])).2 rfl
 have e2:=(zgM ⟨3,u.id,sz,[]⟩ (by simp)).1
 unfold wrC;rw [hB];rw [if_pos];unfold encM at e1;rw [if_pos hm] at e1;simp only [jk,ji] at *;simp only [apE] at *;omega
end Go.Proofs.YtkjepecoodjbmaaGreatDoor
namespace Go.Proofs.YtkjepecoodjbmaaGreatDoor
open Go Go.Sep Go.Ab Go.Jrn
def zez (q:Sto) (r:TA):Prop:=(400≤r.st→r.q=q)∧(r.st<400→r.q=q∨r.q.s=(r.q.b.length:Int))
theorem te3 {q:Sto} {c:Prop} [Decidable c] {a b:TA} (ha:c→zez q a) (hb: ¬ c→zez q b):zez q (if c then a else b):=by split<;>simp_all
theorem yJ {q:Sto} {st:Int} {fs:List Fld}:zez q ⟨st,fs,q⟩:=⟨fun _=>rfl,fun _=>.inl rfl⟩
theorem SC {q q':Sto} {st:Int} {fs:List Fld} (h:st<400):zez q ⟨st,fs,syS q'⟩:=⟨fun h2=>by simp only at h2;omega,fun _=>.inr rfl⟩
theorem zgS (q:Sto) (f:List Fld):zez q (xA q f):=by
 unfold xA
 repeat' with_reducible refine te3 (fun _=> ?_) (fun _=> ?_)
 all_goals first|exact yJ|exact SC (by decide)
theorem zmq (q:Sto) (u:Upl):zez q (VJ q u):=by
 unfold VJ
 exact te3 (fun _=>yJ) (fun _=>SC (by decide))
theorem zhG {q:Sto} {u:Upl} (f:List Fld) (body:Str) (hb:getB q.l u.id=true) (hu:getU q.l u.id=u) (hid:1≤u.id∧u.id≤200000):zez q (wP q u f body):=by
 unfold wP
 refine te3 (fun _=>yJ) (fun _=>te3 (fun _=>yJ) (fun _=>te3 (fun _=>yJ) (fun _=>te3 (fun _=>yJ) (fun h1=>te3 (fun _=>yJ) (fun h2=>te3 (fun _=>yJ) (fun _=>te3 (fun _=>yJ) (fun h3=>te3 (fun _=>yJ) (fun h4=>te3 (fun _=>yJ) (fun h5=>te3 (fun _=>yJ) (fun h6=>te3 (fun h7=>te3 (fun h8=> ?_) (fun _=>SC (by decide))) (fun _=>SC (by decide))))))))))))
 refine absurd (zpR (nv:=zN f qw) (sz:=zN f yL) hb hu (by simpa using h2) hid ?_ h7.1 ?_ ?_ h7.2 (by simpa using h5)) h8
 · by_cases hg:apG q.l u.id (zN f qw)=true
   · rw [if_pos hg] at h6;exact absurd (by decide) h6
   · rw [if_neg hg] at h6;simpa using h6
 · have h9: ¬ (2000<zN f yL∨zN f yL<zN f qw+(body.length:Int)):=fun h=>h4 ⟨h7.1,h7.2,h⟩
   omega
 · have h9: ¬ (2000<zN f yL∨zN f yL<zN f qw+(body.length:Int)):=fun h=>h4 ⟨h7.1,h7.2,h⟩
   omega
theorem zuy {l:List Upl} {id:Int} (h:getB l id=true):(getU l id).id=id∧getU l id ∈ l:=by
 have hat:atU l id<l.length:=by unfold getB at h;simpa using h
 unfold getU;rw [if_pos hat];exact⟨YC hat,wO hat⟩
theorem zhq {q:Sto} (hs:zJ q.l q.n) (hn:q.n≤200000) (m t:Str) (f:List Fld) (body:Str):zez q (yC q m t f body):=by
 unfold yC;refine te3 (fun _=>yJ) (fun _=>te3 (fun _=>yJ) (fun _=>te3 (fun _=>yJ) (fun _=>te3 (fun _=>te3 (fun _=>yJ) (fun _=>zgS _ _)) (fun _=>te3 (fun _=>yJ) (fun h1=>te3 (fun _=>yJ) (fun _=>te3 (fun _=> ?_) (fun _=>te3 (fun _=>zmq _ _) (fun _=>yJ))))))))
 have h2:getB q.l (idV t)=true:=by
  unfold uplB at h1;simp only [Bool.not_eq_false,jK] at h1;exact h1.2
 have h3:=zuy h2;have h4:=hs.ids _ h3.2
 exact zhG f body (by rw [h3.1];exact h2) (by rw [h3.1]) (by omega)
end Go.Proofs.YtkjepecoodjbmaaGreatDoor
namespace Go.Proofs.YtkjepecoodjbmaaGreatDoor
open Go Go.Sep Go.Ab Go.Jrn
def Hs (q:Sto):Prop:=∃ W k,Hist q W k
def Full (q:Sto):Prop:=∃ W,Hist q W W.length
theorem zaS {q:Sto} (h:Full q):Hs q:=h.elim fun W h=>⟨W,_,h⟩
theorem zwa:Full ⟨[],0,[],0⟩:=⟨[],zrS⟩
theorem full_of {q:Sto} (h:Hs q) (e:q.s=(q.b.length:Int)):Full q:=by
 obtain⟨W,k,h⟩:=h
 exact⟨W,h.may,h.bytes,h.rep,h.acc,jL _,by rw [List.take_length,e,h.bytes],h.b⟩
theorem zrR {q:Sto} (h:Hs q):Full (syS q):=by
 obtain⟨W,k,h⟩:=h;exact⟨W,zoY h⟩
theorem ztA {q:Sto} {e:Ent} (h:wsC q e≠0):wsS q e=q:=by
 unfold wsC at h;unfold wsS wrtL wrtN wrtB;rw [if_neg h,if_neg h,if_neg h]
theorem zus {q:Sto} (h:Hs q) {e:Ent} (hc:CanE e):Hs (wsS q e):=by
 by_cases h0:wsC q e=0
 · obtain⟨W,k,h⟩:=h
   exact⟨_,k,zl2 h hc h0⟩
 · rw [ztA h0];exact h
theorem zp8 (q:Sto) (n:Int) (t:Str):CanE (creE q n t):=⟨q.n,⟨0,0,n,t⟩,by simp,rfl⟩
theorem ztw (id:Int) (x:Str):CanE (apE id x):=⟨0,⟨1,id,0,x⟩,by simp,rfl⟩
theorem zu1 (id n:Int):CanE ⟨3,id,n,[]⟩:=⟨0,⟨2,id,n,[]⟩,by simp,rfl⟩
theorem zej (id:Int):CanE ⟨4,id,0,[]⟩:=⟨0,⟨3,id,0,[]⟩,by simp,rfl⟩
theorem zu3 (id:Int):CanE (begE id):=⟨0,⟨4,id,0,[]⟩,by simp,rfl⟩
theorem zu0 (id:Int):CanE (endE id):=⟨0,⟨5,id,0,[]⟩,by simp,rfl⟩
inductive Rch (a:Sto):Sto→Prop
 |nil:Rch a a
 |ws {q:Sto} {e:Ent}:Rch a q→CanE e→Rch a (wsS q e)
 |sy {q:Sto}:Rch a q→Rch a (syS q)
theorem Rch.hs {a q:Sto} (h:Rch a q) (k:Hs a):Hs q:=by
 induction h with
 |nil=>exact k
 |ws _ hc ih=>exact zus ih hc
 |sy _ ih=>exact zaS (zrR ih)
theorem Rch.trans {a q r:Sto} (h:Rch a q) (k:Rch q r):Rch a r:=by
 induction k with
 |nil=>exact h
 |ws _ hc ih=>exact .ws ih hc
 |sy _ ih=>exact .sy ih
theorem zrp {a0:Sto} {c:Prop} [Decidable c] {a b:TA} (ha:Rch a0 a.q) (hb:Rch a0 b.q):Rch a0 (if c then a else b).q:=by split<;>assumption
theorem zrq {a q:Sto} (h0:Rch a q) (m t:Str) (f:List Fld) (body:Str):Rch a (yC q m t f body).q:=by
 have hc:Rch a (xA q f).q:=by
  unfold xA
  repeat' with_reducible refine zrp ?_ ?_
  all_goals first|exact h0|exact Rch.sy ((Rch.ws h0 (zp8 _ _ _)))
 have hd: ∀ u,Rch a (VJ q u).q:=fun u=>by
  unfold VJ;exact zrp h0 (Rch.sy ((Rch.ws h0 (zej _))))
 have hp: ∀ u,Rch a (wP q u f body).q:=fun u=>by
  unfold wP;have h1:Rch a (wsS q (apE u.id body)):=Rch.ws h0 (ztw _ _);have h2: ∀ z,Rch a (wsS (wsS q (apE u.id body)) ⟨3,u.id,z,[]⟩):=fun z=>Rch.ws h1 (zu1 _ _)
  repeat' with_reducible refine zrp ?_ ?_
  all_goals first|exact h0|exact h1|exact Rch.sy h1|exact Rch.sy ((h2 _))|exact h2 _
 unfold yC
 repeat' with_reducible refine zrp ?_ ?_
 all_goals first|exact h0|exact hc|exact hd _|exact hp _
theorem zcq {q:Sto} {k:Int} (hq:SOk q k) (hk:k≤200000) (h:Full q) (m t:Str) (f:List Fld) (body:Str):Full (yC q m t f body).q:=by
 have h1:=zhq hq.1 (by have:=hq.2.2.1;omega) m t f body
 by_cases h2:400≤(yC q m t f body).st
 · rw [h1.1 h2];exact h
 · rcases h1.2 (by omega) with e|e
   · rw [e];exact h
   · exact full_of ((zrq .nil m t f body).hs (zaS h)) e
theorem zvz {a q:Sto} (h:Rch a q) (id off:Int) (x:Str):Rch a (apQ q id off x):=by
 unfold apQ
 split
 · exact h
 · exact Rch.ws h (ztw _ _)
theorem zn4 {a q:Sto} (h:Rch a q) (p:Prt):Rch a (tH q p):=by
 have h1:Rch a (wsS q (uO q p)):=Rch.ws h (zp8 _ _ _);have h2:=zvz h1 (q.n+1) 0 p.bytes;unfold tH
 split
 · exact h1
 split
 · exact Rch.ws h2 (zej _)
 · exact h2
theorem zjI {a:Sto}: ∀ (ids:List Int) {q:Sto},Rch a q→Rch a (Xt q ids)
 |[],_,h=>h
 |_::r,_,h=>zjI r (Rch.ws h (zej _))
theorem zdZ: ∀ (ps:List Prt) (q:Sto) (ids:List Int) (t:Str),∃ r,Rch q r∧(vN q ids t ps).q=syS r
 |[],q,ids,t=>⟨q,.nil,rfl⟩
 | p ::r,q,ids,t=>by
   unfold vN
   split
   · exact zdZ r q ids t
   split
   · exact⟨_,zjI ids (zn4 .nil p),rfl⟩
   · obtain⟨x,h1,h2⟩:=zdZ r (tH q p) (ids++[q.n+1]) (zls t (q.n+1) p)
     exact⟨x,(zn4 .nil p).trans h1,h2⟩
theorem zmb (ps:List Prt) {q:Sto} (ids:List Int) (t:Str) (h:Hs q):Full (vN q ids t ps).q:=by
 obtain⟨r,h1,h2⟩:=zdZ ps q ids t;rw [h2];exact zrR (h1.hs h)
theorem zr1 {q:Sto} {k:Int} (hq:SOk q k) (hk:k≤200000) (h:Full q) (m t:Str) (f:List Fld) (body:Str):Full (ansG q m t f body).q:=by
 unfold ansG
 split
 · exact zcq hq hk h m t f body
 split
 · exact h
 split
 · exact h
 unfold XK
 split
 · exact h
 split
 · exact h
 · exact zmb _ _ _ (zaS h)
theorem zuG {x:GE} {m:Int} {k:Nat} (hx:EOk x m k) (hm:m≤200000) (h:Full x.q) (e:Evt):Full (evG x e).q:=by
 unfold evG
 repeat' split
 all_goals first|exact h|exact zr1 hx.1 hm h _ _ _ _
theorem zkr: ∀ (l:List Evt) {x:GE} {m:Int} {k:Nat},EOk x m k→EvO l→m+12 * cnt3 l≤200000→Full x.q→Full (evsG x l).q
 |[],_,_,_,_,_,_,h=>h
 | e::l,x,m,k,hx,hl,hm,h=>by
   have e1:cnt3 (e::l)=cnt3 [e]+cnt3 l:=Zz [e] l;have h1:=ztq hx (hl e List.mem_cons_self)
   exact zkr l h1 (fun y hy=>hl y (List.mem_cons_of_mem _ hy)) (by omega) (zuG hx (by omega) h e)
theorem zuF {q:Sto} {m:Int} {c:Cn} {k:Nat} (hq:SOk q m) (hc:CnI c k) {b:Str} (hb:k+b.length≤1000000) (hm:m+12 * b.length≤200000) (h:Full q):Full (fdQ q c b):=by
 obtain⟨h1,h2,h3,h4⟩:=zpw hc (b:=b) hb;rw [ztm]
 exact zkr _ (x:=⟨q,c.h,c.body,c.live,c.own,[]⟩) ⟨hq,hc.2.1,hc.2.2.1⟩ h1 (by omega) h
theorem zpb {q:Sto} {m:Int} (hq:SOk q m) (hm:m≤200000) (h:Full q) (c:Cn):Full (XI q c):=by
 unfold XI
 split
 · exact zcq hq hm h _ _ _ _
 · exact h
theorem zpa {q:Sto} (h:Full q) (id:Int):Full (Zb q id):=by
 unfold Zb
 split
 · rename_i h1;rw [ztA h1];exact h
 · exact zrR (zus (zaS h) (zu3 id))
theorem zo9 {q:Sto} (h:Full q) (id:Int):Full (zcZ q id):=by
 unfold zcZ
 split
 · rename_i h1;rw [ztA h1];exact h
 · exact zrR (zus (zaS h) (zu0 id))
theorem zks {q:Sto} (h:Full q) (k:Int):crsQ q k=q:=by
 obtain⟨W,h⟩:=h;obtain⟨h1,h2,h3⟩:=zl4 h k;unfold crsQ;rw [h1,h2,← h3]
theorem zuH {g:GS} {m:Int} {N:Nat} (hg:GsI g m N) (x:Stp) (hb:N+x.bytes.length≤1000000) (hm:m+12 * x.bytes.length≤200000) (h:Full g.q):Full (doG g x).q:=by
 unfold doG
 repeat' with_reducible split
 · exact zuF hg.q (zv7 hg _) hb hm h
 · exact h
 · exact zpb hg.q (by omega) h _
 · exact h
 · exact zpa h _
 · exact zo9 h _
 · show Full (crsQ g.q x.n)
   rw [zks h];exact h
 · exact h
end Go.Proofs.YtkjepecoodjbmaaGreatDoor
namespace Go.Proofs.YtkjepecoodjbmaaGreatDoor
open Go Go.Sep Go.Ab Go.Jrn
theorem at_mem {l:List Upl} {id:Int} (h: ¬ l.length≤atU l id):yg l id ∈ l:=wO (by omega)
end Go.Proofs.YtkjepecoodjbmaaGreatDoor
namespace Go.Proofs.YtkjepecoodjbmaaGreatDoor
open Go Go.Sep Go.Ab Go.Jrn
theorem zqX {q:Sto} {id:Int} (h:wsC q (begE id)=0): ¬ q.l.length≤atU q.l id∧(yg q.l id).sent=0∧(yg q.l id).size=(yg q.l id).bytes.length∧(Zb q id).l=q.l.set (atU q.l id) { yg q.l id with sent:=1}:=by
 have h1:=(zcV h).1;have h2:begC q.l id=0:=h1
 have h3:(Zb q id).l=begL q.l id:=by
  unfold Zb
  rw [if_neg (by omega)]
  exact if_pos h
 unfold begL at h3;rw [if_pos h2] at h3;unfold begC at h2
 by_cases k1:q.l.length≤atU q.l id
 · rw [if_pos k1] at h2;cases h2
 rw [if_neg k1] at h2
 by_cases k2:(yg q.l id).sent=0
 · rw [if_neg (by simpa using k2)] at h2
   by_cases k3:(yg q.l id).size=(yg q.l id).bytes.length
   · exact⟨k1,k2,k3,h3⟩
   · rw [if_pos k3] at h2;cases h2
 · rw [if_pos k2] at h2;cases h2
end Go.Proofs.YtkjepecoodjbmaaGreatDoor
namespace Go.Proofs.YtkjepecoodjbmaaGreatDoor
open Go Go.Sep Go.Ab
set_option maxRecDepth 100000
set_option maxHeartbeats 8000000 in
theorem zv9 (j:Nat) (hj:j<4) (l:List Upl) (n:Int) (b:Str) (s:Int) (c d1 d2 d3:Cn) (x:Str) (hneed:FdN ⟨l,n,b,s⟩ c x):Spc Tryz.prog 14 [.v (.one (.ptr 0 0)),.v (.one (.p (.int .i64 j))),.v (.one (.p (.list .byte x)))] (.obj 50 [.ptr 1 0,.ptr 2 0,.ptr 3 0,.ptr 4 0,.ptr 5 0]:: .pack [.obj 54 [.ptr 1 0,.ptr 2 0],.pack [.obj 124 [.row 1,.p (.int .i64 n)],.row .upl 81 l],.pack [.obj 156 [.row 1,.p (.int .i64 s)],.row .byte 5 b]]::insC j c d1 d2 d3) (.ret (.tup [.one (.p (.list .byte ((fdO ⟨l,n,b,s⟩ c x)))),.one (.p (.int .i64 ((fdK c))))])) (.obj 50 [.ptr 1 0,.ptr 2 0,.ptr 3 0,.ptr 4 0,.ptr 5 0]:: .pack [.obj 54 [.ptr 1 0,.ptr 2 0],.pack [.obj 124 [.row 1,.p (.int .i64 ((fdQ ⟨l,n,b,s⟩ c x).n))],.row .upl 81 ((fdQ ⟨l,n,b,s⟩ c x).l)],.pack [.obj 156 [.row 1,.p (.int .i64 ((fdQ ⟨l,n,b,s⟩ c x).s))],.row .byte 5 ((fdQ ⟨l,n,b,s⟩ c x).b)]]::insC j ((fdC ⟨l,n,b,s⟩ c x)) d1 d2 d3):=by
 obtain⟨hJ,hN⟩:=zwj hneed;have hend:=fun l1 n1 b1 s1 c1 o i h=>zuR (q:=⟨l,n,b,s⟩) (c0:=c) (x:=x) (l:=l1) (n:=n1) (b:=b1) (s:=s1) (c:=c1) (o:=o) (i:=i) h;have hA0:=zxc hJ (zO c.q x) (l:=l) (n:=n) (b:=b) (s:=s) rfl
 have hd4:c.q.pos=4→fdK c=18∧fdO ⟨l,n,b,s⟩ c x=[]∧fdQ ⟨l,n,b,s⟩ c x=⟨l,n,b,s⟩∧fdC ⟨l,n,b,s⟩ c x=c:=fun h=>by unfold fdK fdO fdQ fdC;rw [if_pos h,if_pos h,if_pos h,if_pos h];exact⟨rfl,rfl,rfl,rfl⟩
 have hd5: ¬ c.q.pos=4→fdK c=0:=fun h=>by unfold fdK;rw [if_neg h]
 generalize fdK c=rk at *;generalize fdO ⟨l,n,b,s⟩ c x=ro at *;generalize fdQ ⟨l,n,b,s⟩ c x=rq at *;generalize fdC ⟨l,n,b,s⟩ c x=rc at *;obtain⟨l',n',b',s'⟩:=rq;obtain⟨q,⟨m,t,mi,f,le⟩,cb,li,w⟩:=c;dsimp only at *;generalize hx0:(⟨⟨l,n,b,s⟩,⟨m,t,mi,f,le⟩,cb,li,w,[]⟩:GE)=x0 at *
 refine spH Tryz.func14 (by kernel_rfl) { cfgG with rl:=[0],nr:=[8],keep:=some [0,1,2,6,7,8,10,37,38,39]} [zam,zal,zaj,zai,UG,UF,UE,UD,UC,UB,UA,Uz] (by kernel_rfl) ?_
 intro I X hI hX;clear hneed;obtain⟨jj,hjj⟩: ∃ jj,jj=j:=⟨_,rfl⟩;obtain⟨ww,hww⟩: ∃ ww,ww=w:=⟨_,rfl⟩
 obtain rfl|rfl|rfl|rfl:j=0∨j=1∨j=2∨j=3:=by omega
 all_goals cases w
 all_goals
  refine orcL ?_;go_invoke;refine orcS (by kernel_rfl) ?_
  simp only [zi,Nat.reduceAdd]
  have hh: ∀ {α:Type} (y:α),I.hid y=y:=fun y=>by subst hI;rfl
  simp only [hh];generalize yK (zO q x).out=J at *
  (repeat' (first|refine ja ?_ ?_|intro _))
  all_goals try(subst hI;(simp only [nrmA,nrmB,nrlB,reduceCtorEq,insC,V0.agg.injEq,HO.pack.injEq,HO.obj.injEq,HO.abs.injEq,Gh.cn.injEq] at *);first|done|omega|exact hN|(obtain⟨r1,r2,r3,r4⟩:=hd4 (by omega);simp only [Sto.mk.injEq] at r3;obtain⟨r5,r6,r7,r8⟩:=r3;simp [r1,r2,r4,r5,r6,r7,r8];done))
  have hp: ¬ q.pos=4:=by
   subst hI;simp only [nrmA,nrmB,nrlB,reduceCtorEq] at *;omega
  refine lpH hI [zam,zal,zaj,zai,UG,UF,UE,UD,UC,UB,UA,Uz] hX [0,1,8,37,38,39] (fun(g:Nat × List Upl × Int × Str × Int × Cn × Str)=>match g with|(i,l1,n1,b1,s1,c,o)=>FdA x0 J i l1 n1 b1 s1 c o (zO q x)) (fun(g:Nat × List Upl × Int × Str × Int × Cn × Str)=>match g with|(i,l1,n1,b1,s1,c,o)=>⟨[(0,.v (.one (.ptr 0 0))),(1,.v (.one (.p (.int .i64 jj)))),(8,.v (.one (.row 6))),(37,.v (.one (.row 7))),(38,.v (.one (.p (.int .i64 ((I.len (α:=Evt) J)))))),(39,.v (.one (.p (.int .i64 i))))],(.obj 50 [.ptr 1 0,.ptr 2 0,.ptr 3 0,.ptr 4 0,.ptr 5 0]:: .pack [.obj 54 [.ptr 1 0,.ptr 2 0],.pack [.obj 124 [.row 1,.p (.int .i64 n1)],.row .upl 81 l1],.pack [.obj 156 [.row 1,.p (.int .i64 s1)],.row .byte 5 b1]]::(insC jj c d1 d2 d3++[.row .byte 5 o,.row .evt 34 J])),56,none⟩) (fun(g:Nat × List Upl × Int × Str × Int × Cn × Str)=>match g with|(i,l1,n1,b1,s1,c,o)=>J.length - i) (0,l,n,b,s,⟨zO q x,⟨m,t,mi,f,le⟩,cb,li,ww⟩,[]) (by kernel_rfl) (by subst hjj hww;kernel_rfl) ?_ ?_
  · subst hww;exact hA0
  subst hjj hww;rintro⟨i,l1,n1,b1,s1,c,o⟩ h1 A hA;simp only at hA h1;have hok:=ztn hJ h1;have hol:=h1.ol;have hil:=h1.le;have hln:=hJ.ln;have hS:=fun h=>zxb hJ h1 h ⟨0,⟨[],[],0,[],0⟩,[],⟨[],[],[],[]⟩,0⟩;have hend:=hend _ _ _ _ _ _ _ h1
  refine orcL ?_;go_invoke;refine orcS (by kernel_rfl) ?_
  simp only [zi,Nat.reduceAdd]
  have e1:I.get J ⟨0,⟨[],[],0,[],0⟩,[],⟨[],[],[],[]⟩,0⟩ (i:Int)=J.getD i ⟨0,⟨[],[],0,[],0⟩,[],⟨[],[],[],[]⟩,0⟩:=by subst hI;first|rfl|simp
  simp only [e1];generalize J.getD i ⟨0,⟨[],[],0,[],0⟩,[],⟨[],[],[],[]⟩,0⟩=E at *;have e0:(⟨E.kind,⟨E.head.method,E.head.target,E.head.minor,E.head.fields,E.head.length⟩,E.bytes,⟨E.part.name,E.part.file,E.part.type,E.part.bytes⟩,E.code⟩:Evt)=E:=rfl;simp only [e0,hh];generalize hr:evG ⟨⟨l1,n1,b1,s1⟩,c.h,c.body,c.live,c.own,[]⟩ E=r at *;have hd5:=hd5 hp;subst hI;simp only [nrmA,nrmB,nrlB,reduceCtorEq,V0.agg.injEq,HO.pack.injEq,HO.obj.injEq,HO.abs.injEq,Gh.cn.injEq]
  (repeat' (first|refine ja ?_ ?_|intro _))<;>first|omega|exact jb|exact jc ‹False›|skip
  all_goals first
   |omega
   |exact hok.1
   |exact hok.2.2.2.1.1
   |(exact(hok.2.2.2.1.2 _ ‹_›).1)
   |(exact(hok.2.2.2.1.2 _ ‹_›).2)
   |exact(hS (by omega)).1.1
   |exact(hS (by omega)).1.2
   |(exact(hS (by omega)).1.2 ‹_›)
   |(have:=((hS (by omega)).2 _ rfl).1;omega)
   |exact hA (i+1,r.q.l,r.q.n,r.q.b,r.q.s,⟨c.q,r.h,r.b,r.i,r.w⟩,o++r.o) ((hS (by omega)).2 _ rfl).2 (by dsimp only;omega)
   |(obtain⟨r3,r4,r5⟩:=hend (by omega) hp;simp only [Sto.mk.injEq] at r3;obtain⟨r6,r7,r8,r9⟩:=r3;simp [insC,r4,r5,r6,r7,r8,r9,hd5];done)
def uh (j:Nat) (I:Alg) (args:List D) (hp:List HO):Option CT:=match args,hp with
 | [.v (.one (.ptr 0 0)),.v (.one (.p (.int .i64 k))),.v (.one (.p (.list .byte x)))],[.obj 50 [.ptr 1 0,.ptr 2 0,.ptr 3 0,.ptr 4 0,.ptr 5 0],.pack [.obj 54 [.ptr 1 0,.ptr 2 0],.pack [.obj 124 [.row 1,.p (.int .i64 n)],.row .upl 81 l],.pack [.obj 156 [.row 1,.p (.int .i64 s)],.row .byte 5 b]],.abs (.cn c0),.abs (.cn c1),.abs (.cn c2),.abs (.cn c3)]=>(match isJ k j with
   |true=>(fun(l:List Upl) (b:Str) (x:Str)=>(selC j c0 c1 c2 c3 fun c d1 d2 d3=>some (.one ⟨I.hid (FdN ⟨l,n,b,s⟩ c x),(.ret (.tup [.one (.p (.list .byte (I.hid (fdO ⟨l,n,b,s⟩ c x)))),.one (.p (.int .i64 (I.hid (fdK c))))])),(.obj 50 [.ptr 1 0,.ptr 2 0,.ptr 3 0,.ptr 4 0,.ptr 5 0]:: .pack [.obj 54 [.ptr 1 0,.ptr 2 0],.pack [.obj 124 [.row 1,.p (.int .i64 (I.hid ((fdQ ⟨l,n,b,s⟩ c x).n)))],.row .upl 81 (I.hid ((fdQ ⟨l,n,b,s⟩ c x).l))],.pack [.obj 156 [.row 1,.p (.int .i64 (I.hid ((fdQ ⟨l,n,b,s⟩ c x).s)))],.row .byte 5 (I.hid ((fdQ ⟨l,n,b,s⟩ c x).b))]]::insC j (I.hid (fdC ⟨l,n,b,s⟩ c x)) d1 d2 d3)⟩):Option CT)) l b x
   |false=>none)
 |_,_=>none
theorem qh (j:Nat) (hj:j<4):zx Tryz.prog 14 (uh j alg):=by
 intro args hp r h;unfold uh at h
 split at h
 · split at h
   · rename_i hk
     first|(cases zoR hk)|(cases jI hk)
     obtain rfl|rfl|rfl|rfl:j=0∨j=1∨j=2∨j=3:=by omega
     all_goals(cases h;exact fun hn=>zv9 _ (by decide) _ _ _ _ _ _ _ _ _ hn)
   · cases h
 · cases h
def zgc:Know Tryz.prog:=⟨14,uh 0,qh 0 (by decide)⟩
def zgb:Know Tryz.prog:=⟨14,fun I=>zu I (uh 0 I),zf (qh 0 (by decide))⟩
def zga:Know Tryz.prog:=⟨14,uh 1,qh 1 (by decide)⟩
def zf9:Know Tryz.prog:=⟨14,fun I=>zu I (uh 1 I),zf (qh 1 (by decide))⟩
def zf8:Know Tryz.prog:=⟨14,uh 2,qh 2 (by decide)⟩
def zf7:Know Tryz.prog:=⟨14,fun I=>zu I (uh 2 I),zf (qh 2 (by decide))⟩
def zf6:Know Tryz.prog:=⟨14,uh 3,qh 3 (by decide)⟩
def zf5:Know Tryz.prog:=⟨14,fun I=>zu I (uh 3 I),zf (qh 3 (by decide))⟩
end Go.Proofs.YtkjepecoodjbmaaGreatDoor
namespace Go.Proofs.YtkjepecoodjbmaaGreatDoor
open Go Go.Sep Go.Ab
set_option maxRecDepth 100000
def oldC (c:Cn):Cn:= { c with own:=if zrU c then false else c.own}
def gonP (j:Nat):List Ab.C:=match j with
 |0=>[.ptr 1 0,.ptr 6 0,.ptr 3 0,.ptr 4 0,.ptr 5 0]
 |1=>[.ptr 1 0,.ptr 2 0,.ptr 6 0,.ptr 4 0,.ptr 5 0]
 |2=>[.ptr 1 0,.ptr 2 0,.ptr 3 0,.ptr 6 0,.ptr 5 0]
 |_=>[.ptr 1 0,.ptr 2 0,.ptr 3 0,.ptr 4 0,.ptr 6 0]
set_option maxHeartbeats 8000000 in
theorem zv8 (j:Nat) (hj:j<4) (l:List Upl) (n:Int) (b:Str) (s:Int) (c d1 d2 d3:Cn) (hneed:zJ l n∧n≤200000∧b.length≤100000∧FOk c.h.fields∧c.body.length≤100000):Spc Tryz.prog 20 [.v (.one (.ptr 0 0)),.v (.one (.p (.int .i64 j)))] (.obj 50 [.ptr 1 0,.ptr 2 0,.ptr 3 0,.ptr 4 0,.ptr 5 0]:: .pack [.obj 54 [.ptr 1 0,.ptr 2 0],.pack [.obj 124 [.row 1,.p (.int .i64 n)],.row .upl 81 l],.pack [.obj 156 [.row 1,.p (.int .i64 s)],.row .byte 5 b]]::insC j c d1 d2 d3) (.ret (.v (.one (.p (.int .i64 0))))) (.obj 50 (gonP j):: .pack [.obj 54 [.ptr 1 0,.ptr 2 0],.pack [.obj 124 [.row 1,.p (.int .i64 ((XI ⟨l,n,b,s⟩ c).n))],.row .upl 81 ((XI ⟨l,n,b,s⟩ c).l)],.pack [.obj 156 [.row 1,.p (.int .i64 ((XI ⟨l,n,b,s⟩ c).s))],.row .byte 5 ((XI ⟨l,n,b,s⟩ c).b)]]::(insC j ((oldC c)) d1 d2 d3++[.abs (.cn cn0)])):=by
 obtain⟨hs,hn,hb,hf,hbo⟩:=hneed;generalize hq:XI ⟨l,n,b,s⟩ c=rq;generalize hc:oldC c=rc;obtain⟨l',n',b',s'⟩:=rq;obtain⟨q,⟨m,t,mi,f,le⟩,cb,li,w⟩:=c;unfold XI zrU at hq;unfold oldC zrU at hc;dsimp only at *
 rw [show decide (cb≠[])=decide (0<(cb.length:Int)) by cases cb<;>simp] at hq hc
 generalize hg:(li&&(decide (m=zau)&&(decide (0<(cb.length:Int))&&Lib.hasPrefix t wU)))=g at hq hc
 refine spH Tryz.func20 (by kernel_rfl) { cfgG with fz:=[49],keep:=some [0,1,4,5]} [xC,xB,zmZ,zmY,YP,YO] (by kernel_rfl) ?_
 intro I X hI hX
 obtain rfl|rfl|rfl|rfl:j=0∨j=1∨j=2∨j=3:=by omega
 all_goals cases w
 all_goals
  refine orcL ?_;go_invoke;refine orcS (by kernel_rfl) ?_
  simp only [zi,Nat.reduceAdd]
  have hh: ∀ {α:Type} (y:α),I.hid y=y:=fun y=>by subst hI;rfl
  simp only [hh];rw [show([80,65,84,67,72]:Str)=zau from rfl,show([47,102,105,108,101,115,47]:Str)=wU from rfl];generalize yC ⟨l,n,b,s⟩ m t f cb=x at *;obtain⟨x1,x2,⟨x3,x4,x5,x6⟩⟩:=x;generalize Lib.hasPrefix t wU=hp at *;subst hI;dsimp only at *;simp only [nrmA,nrmB,nrlB,reduceCtorEq,insC,gonP,List.cons_append,List.nil_append,V0.agg.injEq,HO.pack.injEq,HO.obj.injEq,HO.abs.injEq,Gh.cn.injEq,decide_eq_true_eq];cases g
  all_goals
   simp only [jd,if_false,if_true,Sto.mk.injEq] at hq hc;obtain⟨rfl,rfl,rfl,rfl⟩:=hq;subst hc
   (repeat' (first|refine ja ?_ ?_|intro _))<;>first|omega|exact jb|exact jc ‹False›|skip
   all_goals first
    |omega
    |with_reducible rfl
    |with_reducible assumption
    |exact hf.1
    |(exact(hf.2 _ ‹_›).1)
    |(exact(hf.2 _ ‹_›).2)
    |rfl
    |(exfalso;simp [*] at hg;done)
    |(exfalso;have hq0:0<cb.length:=(by omega);have hq1:(0<(cb.length:Int))=True:=eq_true (by omega);simp only [*,decide_true,Bool.and_true,je] at hg;done)
    |(exfalso;simp [*] at hg;omega)
def ug (j:Nat) (I:Alg) (args:List D) (hp:List HO):Option CT:=match args,hp with
 | [.v (.one (.ptr 0 0)),.v (.one (.p (.int .i64 k)))],[.obj 50 [.ptr 1 0,.ptr 2 0,.ptr 3 0,.ptr 4 0,.ptr 5 0],.pack [.obj 54 [.ptr 1 0,.ptr 2 0],.pack [.obj 124 [.row 1,.p (.int .i64 n)],.row .upl 81 l],.pack [.obj 156 [.row 1,.p (.int .i64 s)],.row .byte 5 b]],.abs (.cn c0),.abs (.cn c1),.abs (.cn c2),.abs (.cn c3)]=>(match isJ k j with
   |true=>(fun(l:List Upl) (b:Str)=>(selC j c0 c1 c2 c3 fun c d1 d2 d3=>some (.one ⟨I.hid (zJ l n∧n≤200000∧b.length≤100000∧FOk c.h.fields∧c.body.length≤100000),(.ret (.v (.one (.p (.int .i64 0))))),(.obj 50 (gonP j):: .pack [.obj 54 [.ptr 1 0,.ptr 2 0],.pack [.obj 124 [.row 1,.p (.int .i64 (I.hid ((XI ⟨l,n,b,s⟩ c).n)))],.row .upl 81 (I.hid ((XI ⟨l,n,b,s⟩ c).l))],.pack [.obj 156 [.row 1,.p (.int .i64 (I.hid ((XI ⟨l,n,b,s⟩ c).s)))],.row .byte 5 (I.hid ((XI ⟨l,n,b,s⟩ c).b))]]::(insC j (I.hid (oldC c)) d1 d2 d3++[.abs (.cn cn0)]))⟩):Option CT)) l b
   |false=>none)
 |_,_=>none
theorem qg (j:Nat) (hj:j<4):zx Tryz.prog 20 (ug j alg):=by
 intro args hp r h;unfold ug at h
 split at h
 · split at h
   · rename_i hk
     first|(cases zoR hk)|(cases jI hk)
     obtain rfl|rfl|rfl|rfl:j=0∨j=1∨j=2∨j=3:=by omega
     all_goals(cases h;exact fun hn=>zv8 _ (by decide) _ _ _ _ _ _ _ _ hn)
   · cases h
 · cases h
def zf3:Know Tryz.prog:=⟨20,ug 0,qg 0 (by decide)⟩
def zf2:Know Tryz.prog:=⟨20,fun I=>zu I (ug 0 I),zf (qg 0 (by decide))⟩
def zf1:Know Tryz.prog:=⟨20,ug 1,qg 1 (by decide)⟩
def zf0:Know Tryz.prog:=⟨20,fun I=>zu I (ug 1 I),zf (qg 1 (by decide))⟩
def zfZ:Know Tryz.prog:=⟨20,ug 2,qg 2 (by decide)⟩
def zfY:Know Tryz.prog:=⟨20,fun I=>zu I (ug 2 I),zf (qg 2 (by decide))⟩
def zfX:Know Tryz.prog:=⟨20,ug 3,qg 3 (by decide)⟩
def zfW:Know Tryz.prog:=⟨20,fun I=>zu I (ug 3 I),zf (qg 3 (by decide))⟩
end Go.Proofs.YtkjepecoodjbmaaGreatDoor
namespace Go.Proofs.YtkjepecoodjbmaaGreatDoor
open Go Go.Sep Go.Ab
set_option maxRecDepth 100000
def Y7 (I:Alg):KU
 |[.v (.one (.ptr 0 0))],[.obj 50 [.ptr 1 0,.p (.val (.pointer none)),.p (.val (.pointer none)),.p (.val (.pointer none)),.p (.val (.pointer none))],.pack [.obj 54 [.ptr 1 0,.ptr 2 0],.pack [.obj 124 [.row 1,.p (.int .i64 n)],.row .upl 81 l],.pack [.obj 156 [.row 1,.p (.int .i64 s)],.row .byte 5 b]]]=>(fun(l:List Upl) (b:Str)=>(some (.one ⟨I.hid (True),(.ret (.tup [])),[.obj 50 [.ptr 1 0,.ptr 2 0,.ptr 3 0,.ptr 4 0,.ptr 5 0],.pack [.obj 54 [.ptr 1 0,.ptr 2 0],.pack [.obj 124 [.row 1,.p (.int .i64 n)],.row .upl 81 l],.pack [.obj 156 [.row 1,.p (.int .i64 s)],.row .byte 5 b]],.abs (.cn cn0),.abs (.cn cn0),.abs (.cn cn0),.abs (.cn cn0)]⟩):Option CT)) l b
 |_,_=>none
theorem zco:zx Tryz.prog 41 (Y7 alg):=by
 intro args hp r h;unfold Y7 at h;split at h<;>cases h
 rename_i n l s b
 revert l;intro(l:List Upl)
 simp only [CT.Good,zh];intro _
 refine spH Tryz.func41 (by kernel_rfl) { cfgG with keep:=some [0,2,3]} [YP,YO] (by kernel_rfl) ?_
 intro I X hI hX
 refine orcL ?_;go_invoke;refine orcS (by kernel_rfl) ?_
 simp only [zi,Nat.reduceAdd]
 refine lpH hI [YP,YO] hX [0,3] (fun i:Nat=>i≤4) (fun i:Nat=>match i with
  |0=>⟨[(0,.v (.one (.ptr 0 0))),(3,.v (.one (.p (.int .i64 0))))],[.obj 50 [.ptr 1 0,.p (.val (.pointer none)),.p (.val (.pointer none)),.p (.val (.pointer none)),.p (.val (.pointer none))],.pack [.obj 54 [.ptr 1 0,.ptr 2 0],.pack [.obj 124 [.row 1,.p (.int .i64 n)],.row .upl 81 l],.pack [.obj 156 [.row 1,.p (.int .i64 s)],.row .byte 5 b]]],15,none⟩
  |1=>⟨[(0,.v (.one (.ptr 0 0))),(3,.v (.one (.p (.int .i64 1))))],[.obj 50 [.ptr 1 0,.ptr 2 0,.p (.val (.pointer none)),.p (.val (.pointer none)),.p (.val (.pointer none))],.pack [.obj 54 [.ptr 1 0,.ptr 2 0],.pack [.obj 124 [.row 1,.p (.int .i64 n)],.row .upl 81 l],.pack [.obj 156 [.row 1,.p (.int .i64 s)],.row .byte 5 b]],.abs (.cn cn0)],15,none⟩
  |2=>⟨[(0,.v (.one (.ptr 0 0))),(3,.v (.one (.p (.int .i64 2))))],[.obj 50 [.ptr 1 0,.ptr 2 0,.ptr 3 0,.p (.val (.pointer none)),.p (.val (.pointer none))],.pack [.obj 54 [.ptr 1 0,.ptr 2 0],.pack [.obj 124 [.row 1,.p (.int .i64 n)],.row .upl 81 l],.pack [.obj 156 [.row 1,.p (.int .i64 s)],.row .byte 5 b]],.abs (.cn cn0),.abs (.cn cn0)],15,none⟩
  |3=>⟨[(0,.v (.one (.ptr 0 0))),(3,.v (.one (.p (.int .i64 3))))],[.obj 50 [.ptr 1 0,.ptr 2 0,.ptr 3 0,.ptr 4 0,.p (.val (.pointer none))],.pack [.obj 54 [.ptr 1 0,.ptr 2 0],.pack [.obj 124 [.row 1,.p (.int .i64 n)],.row .upl 81 l],.pack [.obj 156 [.row 1,.p (.int .i64 s)],.row .byte 5 b]],.abs (.cn cn0),.abs (.cn cn0),.abs (.cn cn0)],15,none⟩
  |_=>⟨[(0,.v (.one (.ptr 0 0))),(3,.v (.one (.p (.int .i64 4))))],[.obj 50 [.ptr 1 0,.ptr 2 0,.ptr 3 0,.ptr 4 0,.ptr 5 0],.pack [.obj 54 [.ptr 1 0,.ptr 2 0],.pack [.obj 124 [.row 1,.p (.int .i64 n)],.row .upl 81 l],.pack [.obj 156 [.row 1,.p (.int .i64 s)],.row .byte 5 b]],.abs (.cn cn0),.abs (.cn cn0),.abs (.cn cn0),.abs (.cn cn0)],15,none⟩) (fun i:Nat=>4 - i) 0 (by kernel_rfl) (by kernel_rfl) ?_ ?_
 · exact jM _
 rintro i h1 A hA
 obtain rfl|rfl|rfl|rfl|rfl:i=0∨i=1∨i=2∨i=3∨i=4:=by omega
 all_goals
  refine orcL ?_;go_invoke;refine orcS (by kernel_rfl) ?_
  simp only [zi,Nat.reduceAdd];subst hI;refine⟨fun c=> ?_,fun c=> ?_⟩
  all_goals first
   |exact absurd c (by decide)
   |exact⟨jb,by show IntKind.i64.min≤_∧_;decide,hA 1 (by decide) (by decide),jb⟩
   |exact⟨jb,by show IntKind.i64.min≤_∧_;decide,hA 2 (by decide) (by decide),jb⟩
   |exact⟨jb,by show IntKind.i64.min≤_∧_;decide,hA 3 (by decide) (by decide),jb⟩
   |exact⟨jb,by show IntKind.i64.min≤_∧_;decide,hA 4 (by decide) (by decide),jb⟩
   |exact⟨jb,jb⟩
def Y6:Know Tryz.prog:=⟨41,Y7,zco⟩
def Y5:Know Tryz.prog:=⟨41,fun I=>zu I (Y7 I),zf zco⟩
end Go.Proofs.YtkjepecoodjbmaaGreatDoor
namespace Go.Proofs.YtkjepecoodjbmaaGreatDoor
open Go Go.Sep Go.Ab
set_option maxRecDepth 100000
theorem outK {k:Int} (h:k<0∨4≤k):(∃ j:Nat,k=Int.negSucc j)∨(∃ j:Nat,k=Int.ofNat (j+4)):=by
 rcases k with j|j
 · refine .inr ⟨j - 4,?_⟩
   have:(Int.ofNat j)=(j:Int):=rfl;rw [this] at h
   rw [show j - 4+4=j by omega]
 · exact .inl ⟨j,rfl⟩
def Vp (I:Alg):KU
 |[.v (.one (.ptr 0 0)),.v (.one (.p (.int .i64 k))),.v (.one (.p (.list .byte x)))],[.obj 50 [.ptr 1 0,.ptr 2 0,.ptr 3 0,.ptr 4 0,.ptr 5 0],.pack [.obj 54 [.ptr 1 0,.ptr 2 0],.pack [.obj 124 [.row 1,.p (.int .i64 n)],.row .upl 81 l],.pack [.obj 156 [.row 1,.p (.int .i64 s)],.row .byte 5 b]],.abs (.cn c0),.abs (.cn c1),.abs (.cn c2),.abs (.cn c3)]=>(fun(l:List Upl) (b x:Str)=>(some (.one ⟨I.hid (k<0∨4≤k),(.ret (.tup [.one (.p (.list .byte (I.hid ([])))),.one (.p (.int .i64 1))])),[.obj 50 [.ptr 1 0,.ptr 2 0,.ptr 3 0,.ptr 4 0,.ptr 5 0],.pack [.obj 54 [.ptr 1 0,.ptr 2 0],.pack [.obj 124 [.row 1,.p (.int .i64 n)],.row .upl 81 l],.pack [.obj 156 [.row 1,.p (.int .i64 s)],.row .byte 5 b]],.abs (.cn c0),.abs (.cn c1),.abs (.cn c2),.abs (.cn c3)]⟩):Option CT)) l b x
 |_,_=>none
theorem zgd:zx Tryz.prog 14 (Vp alg):=by
 intro args hp r h;unfold Vp at h;split at h<;>cases h
 rename_i k x n l s b c0 c1 c2 c3
 revert l;intro(l:List Upl)
 simp only [CT.Good,zh];intro hneed;have hk:=outK hneed
 refine spH Tryz.func14 (by kernel_rfl) { cfgG with rl:=[0],keep:=some [0,1,2,6,7,8,10,37,38,39]} [zam,zal,zaj,zai,UG,UF,UE,UD,UC,UB,UA,Uz,zgc,zgb,zga,zf9,zf8,zf7,zf6,zf5] (by kernel_rfl) ?_
 intro I X hI hX
 rcases hk with⟨j,rfl⟩|⟨j,rfl⟩
 all_goals
  refine orcL ?_;go_invoke;refine orcS (by kernel_rfl) ?_
  simp only [zi,Nat.reduceAdd];subst hI;simp only [nrmA,nrmB,nrlB,reduceCtorEq]
  (repeat' (first|refine ja ?_ ?_|intro _))<;>first|omega|exact jb|exact jc ‹False›|skip
def zo6:Know Tryz.prog:=⟨14,Vp,zgd⟩
def zo5:Know Tryz.prog:=⟨14,fun I=>zu I (Vp I),zf zgd⟩
def Vo (I:Alg):KU
 |[.v (.one (.ptr 0 0)),.v (.one (.p (.int .i64 k)))],[.obj 50 [.ptr 1 0,.ptr 2 0,.ptr 3 0,.ptr 4 0,.ptr 5 0],.pack [.obj 54 [.ptr 1 0,.ptr 2 0],.pack [.obj 124 [.row 1,.p (.int .i64 n)],.row .upl 81 l],.pack [.obj 156 [.row 1,.p (.int .i64 s)],.row .byte 5 b]],.abs (.cn c0),.abs (.cn c1),.abs (.cn c2),.abs (.cn c3)]=>(fun(l:List Upl) (b:Str)=>(some (.one ⟨I.hid (k<0∨4≤k),(.ret (.v (.one (.p (.int .i64 1))))),[.obj 50 [.ptr 1 0,.ptr 2 0,.ptr 3 0,.ptr 4 0,.ptr 5 0],.pack [.obj 54 [.ptr 1 0,.ptr 2 0],.pack [.obj 124 [.row 1,.p (.int .i64 n)],.row .upl 81 l],.pack [.obj 156 [.row 1,.p (.int .i64 s)],.row .byte 5 b]],.abs (.cn c0),.abs (.cn c1),.abs (.cn c2),.abs (.cn c3)]⟩):Option CT)) l b
 |_,_=>none
theorem zf4:zx Tryz.prog 20 (Vo alg):=by
 intro args hp r h;unfold Vo at h;split at h<;>cases h
 rename_i k n l s b c0 c1 c2 c3
 revert l;intro(l:List Upl)
 simp only [CT.Good,zh];intro hneed;have hk:=outK hneed
 refine spH Tryz.func20 (by kernel_rfl) { cfgG with keep:=some [0,1,4,5]} [xC,xB,zmZ,zmY,YP,YO,zf3,zf2,zf1,zf0,zfZ,zfY,zfX,zfW] (by kernel_rfl) ?_
 intro I X hI hX
 rcases hk with⟨j,rfl⟩|⟨j,rfl⟩
 all_goals
  refine orcL ?_;go_invoke;refine orcS (by kernel_rfl) ?_
  simp only [zi,Nat.reduceAdd];subst hI;simp only [nrmA,nrmB,nrlB,reduceCtorEq]
  (repeat' (first|refine ja ?_ ?_|intro _))<;>first|omega|exact jb|exact jc ‹False›|skip
def zo4:Know Tryz.prog:=⟨20,Vo,zf4⟩
def zo3:Know Tryz.prog:=⟨20,fun I=>zu I (Vo I),zf zf4⟩
def zdT (I:Alg):KU
 |[.v (.one (.ptr 0 0))],[.pack [.obj 54 [.ptr 1 0,.ptr 2 0],.pack [.obj 124 [.row 1,.p (.int .i64 n)],.row .upl 81 l],.pack [.obj 156 [.row 1,.p (.int .i64 s)],.row .byte 5 b]]]=>(fun(l:List Upl) (b:Str)=>(some (.one ⟨I.hid (True),(.ret (.v (.one (.ptr 1 0)))),[.pack [.obj 54 [.ptr 1 0,.ptr 2 0],.pack [.obj 124 [.row 1,.p (.int .i64 n)],.row .upl 81 l],.pack [.obj 156 [.row 1,.p (.int .i64 s)],.row .byte 5 b]],.obj 50 [.ptr 0 0,.ptr 2 0,.ptr 3 0,.ptr 4 0,.ptr 5 0],.abs (.cn cn0),.abs (.cn cn0),.abs (.cn cn0),.abs (.cn cn0)]⟩):Option CT)) l b
 |_,_=>none
theorem zo2:zx Tryz.prog 11 (zdT alg):=by
 intro args hp r h;unfold zdT at h;split at h<;>cases h
 rename_i n l s b
 revert l;intro(l:List Upl)
 simp only [CT.Good,zh];intro _
 refine spH Tryz.func11 (by kernel_rfl) { cfgG with keep:=some [0,2,3]} [Y6,Y5] (by kernel_rfl) ?_
 intro I X hI hX
 refine orcL ?_;go_invoke;refine orcS (by kernel_rfl) ?_
 simp only [zi,Nat.reduceAdd];subst hI;simp only [nrmA,nrmB,nrlB,reduceCtorEq,HO.pack.injEq,HO.obj.injEq]
def zuD:Know Tryz.prog:=⟨11,zdT,zo2⟩
def zuC:Know Tryz.prog:=⟨11,fun I=>zu I (zdT I),zf zo2⟩
end Go.Proofs.YtkjepecoodjbmaaGreatDoor
namespace Go.Proofs
open Go.Shelf
def Tryz.lays150_ren:Go.Shelf.Ren:=⟨fun|150=>143|153=>194|152=>232|226=>233|227=>234|228=>235|137=>231|119=>262|224=>263|225=>264|217=>261|266=>282|n=>n,fun|9=>9|4=>4|3=>3|5=>5|21=>21|117=>275|116=>274|0=>0|46=>117|124=>295|n=>n,fun|n=>n⟩
theorem Tryz.lays150:Go.Proofs.Lays.n150 Tryz.prog Tryz.lays150_ren:= {
 mixed:=by kernel_rfl
 f119:=Tryz.func262.trans (congrArg some (by kernel_rfl))
 f137:=Tryz.func231.trans (congrArg some (by kernel_rfl))
 f150:=Tryz.func143.trans (congrArg some (by kernel_rfl))
 f152:=Tryz.func232.trans (congrArg some (by kernel_rfl))
 f153:=Tryz.func194.trans (congrArg some (by kernel_rfl))
 f217:=Tryz.func261.trans (congrArg some (by kernel_rfl))
 f224:=Tryz.func263.trans (congrArg some (by kernel_rfl))
 f225:=Tryz.func264.trans (congrArg some (by kernel_rfl))
 f226:=Tryz.func233.trans (congrArg some (by kernel_rfl))
 f227:=Tryz.func234.trans (congrArg some (by kernel_rfl))
 f228:=Tryz.func235.trans (congrArg some (by kernel_rfl))
 f266:=Tryz.func282.trans (congrArg some (by kernel_rfl))
 t0:=Tryz.underlying0
 a0:=Tryz.isAgg0
 z0:=Tryz.sizeOf0
 v0:=Tryz.zeroValue0
 t3:=Tryz.underlying3
 a3:=Tryz.isAgg3
 z3:=Tryz.sizeOf3
 v3:=Tryz.zeroValue3
 t4:=Tryz.underlying4
 a4:=Tryz.isAgg4
 z4:=Tryz.sizeOf4
 v4:=Tryz.zeroValue4
 t5:=Tryz.underlying5
 a5:=Tryz.isAgg5
 z5:=Tryz.sizeOf5
 v5:=Tryz.zeroValue5
 t9:=Tryz.underlying9
 a9:=Tryz.isAgg9
 z9:=Tryz.sizeOf9
 v9:=Tryz.zeroValue9
 t21:=Tryz.underlying21
 a21:=Tryz.isAgg21
 z21:=Tryz.sizeOf21
 v21:=Tryz.zeroValue21
 t46:=Tryz.underlying117
 a46:=Tryz.isAgg117
 z46:=Tryz.sizeOf117
 v46:=Tryz.zeroValue117
 t116:=Tryz.underlying274
 a116:=Tryz.isAgg274
 z116:=Tryz.sizeOf274
 t117:=Tryz.underlying275
 a117:=Tryz.isAgg275
 z117:=Tryz.sizeOf275
 v117:=Tryz.zeroValue275
 t124:=Tryz.underlying295
 a124:=Tryz.isAgg295
 z124:=Tryz.sizeOf295
 v124:=Tryz.zeroValue295}
open Go.RowKit Go.Lib in
theorem Tryz.strings_ContainsAny (hv116: ∀ w,(zeroValue 274).run Tryz.prog w=.ok (.agg (Array.replicate 256 (.bool false))) w) (s chars:ByteArray) (w:World) (hs:s.size<4294967281) (hcs:chars.size<4294967281) (has: ∀ (j:Nat) b,s.data.toList[j]? =some b→b.toNat<128) (hac: ∀ (j:Nat) b,chars.data.toList[j]? =some b→b.toNat<128):
 Calls Tryz.prog 143 #[.string s,.string chars] w fun e w'=>e=.returned (.bool (Lib.containsAny s.data.toList chars.data.toList))∧Below w.heap.size w w':=Any.strings_ContainsAny Tryz.lays150 hv116 (by kernel_rfl) s chars w hs hcs has hac
end Go.Proofs
namespace Go.Proofs.YtkjepecoodjbmaaGreatDoor
open Go Go.Sep Go.Ab
set_option maxRecDepth 100000
theorem zwL (w:World):(zeroValue 273).run Tryz.prog w=.ok (.agg (Array.replicate 256 (.bool false))) w:=by
 kernel_rfl
theorem zty {s:Str} (h: ∀ x ∈ s,x.toNat<128): ∀ (j:Nat) (b:UInt8),(Sep.S s).data.toList[j]? =some b→b.toNat<128:=fun j b hj=>h b (List.mem_of_getElem? hj)
def vJ (I:Alg):KU
 |[.v (.one (.p (.str s))),.v (.one (.p (.str p)))],[]=>(fun(s p:Str)=>(some (.one ⟨I.hid (s.length≤1000000∧p=[32,9]∧∀ x ∈ s,x.toNat<128),(.ret (.v (.one (.p (.bool (I.hid (Lib.containsAny s p))))))),[]⟩):Option CT)) s p
 |_,_=>none
theorem Yt:zx Tryz.prog 143 (vJ alg):=by
 intro args hp r h;unfold vJ at h;split at h<;>cases h
 rename_i s p;simp only [CT.Good,zh];intro hneed;obtain⟨g1,g3,g4⟩:=hneed;subst g3
 refine Spc.of_below ⟨_,Tryz.func143,by kernel_rfl,by kernel_rfl⟩ fun S bs w vs _ hM=> ?_
 obtain⟨v,r,rfl⟩: ∃ v r,vs=v::r:=by cases vs with|nil=>exact hM.elim|cons v r=>exact⟨v,r,rfl⟩
 obtain⟨h1,hM⟩:=hM
 obtain⟨v2,r2,rfl⟩: ∃ v r2,r=v::r2:=by cases r with|nil=>exact hM.elim|cons v r=>exact⟨v,r,rfl⟩
 obtain⟨h2,hM⟩:=hM
 obtain rfl:r2=[]:=by cases r2 with|nil=>rfl|cons v r=>exact hM.elim
 cases h1 with
 | str _ hl1=>
   cases h2 with
   | str _ hl2=>
     refine⟨.bool (Lib.containsAny s [32,9]),.bool _,(Tryz.strings_ContainsAny zwL (Sep.S s) (Sep.S [32,9]) w (by show s.length<_;omega) (by decide) (zty g4) (zty (by decide))).mono fun e w' h=> ?_⟩
     exact⟨h.1,h.2⟩
def Yr:Know Tryz.prog:=⟨143,vJ,Yt⟩
def Yq:Know Tryz.prog:=⟨143,fun I=>zu I (vJ I),zf Yt⟩
def Zh (I:Alg):KU
 |[.v (.agg [.p (.str m),.p (.str t),.p (.int .i64 mi),.p (.list .fld fs),.p (.int .i64 le)]),.v (.one (.p (.list .byte b)))],[]=>(fun(m t:Str) (fs:List Fld) (b:Str)=>(some (.one ⟨I.hid ((m.length≤1000000∧t.length≤1000000)∧(fs.length≤1000∧∀ f ∈ fs,f.name.length≤1000000∧f.value.length≤1000000)∧b.length≤1000000∧(∀ x ∈ t,x.toNat<128)),(.ret (.tup [.one (.p (.list .byte (I.hid (rqwT m t fs b)))),.one (.p (.int .i64 (I.hid (rqwC m t fs b))))])),[]⟩):Option CT)) m t fs b
 |_,_=>none
theorem zah:zx Tryz.prog 104 (Zh alg):=by
 intro args hp r h;unfold Zh at h;split at h<;>cases h
 rename_i m t mi fs le b
 revert fs;intro(fs:List Fld)
 simp only [CT.Good,zh];intro hneed;obtain⟨⟨hm1,ht1⟩,⟨hfl,hf⟩,hb,hasc⟩:=hneed;generalize hc:rqwC m t fs b=c;generalize ht:rqwT m t fs b=T;have hbl:=wL (b.length:Int);have hx0:=XP fs Yu;have hx1:=XP fs zc3
 refine spH Tryz.func104 (by kernel_rfl) { rl:=[0],keep:=some [0,1,2,4,5,6,8,9,11,12,13,79,80,81]} [tZ,tY,wF,wE,zc1,zc0,XM,XL,Yp,Yo,qC,qB,xC,xB,Yr,Yq] (by kernel_rfl) ?_
 intro I X hI hX
 refine orcL ?_;go_invoke;refine orcS (by kernel_rfl) ?_
 simp only [zi,Nat.reduceAdd];rw [show([99,111,110,116,101,110,116,45,108,101,110,103,116,104]:Str)=Yu from rfl,show([116,114,97,110,115,102,101,114,45,101,110,99,111,100,105,110,103]:Str)=zc3 from rfl,show([104,111,115,116]:Str)=TU from rfl]
 have hk1:Yu.length≤1000000:=by decide
 have hk2:zc3.length≤1000000:=by decide
 have hk3:TU.length≤1000000:=by decide
 (repeat' (first|refine ja ?_ ?_|intro _))
 all_goals try(subst hI;(simp only [nrmA,nrmB,nrlB,reduceCtorEq] at *);first|done|trivial|omega|exact⟨ht1,rfl,hasc⟩|exact hasc _ ‹_›|exact⟨hfl,by assumption,hf⟩|(simp only [jk,jh,ji];omega)|(unfold rqwT at ht;unfold rqwC rqHd at ht hc;((repeat(first|rewrite [if_pos (by first|omega|assumption|(simp only [*,or_self,or_true,true_or,or_false,false_or,jf,jg,jd,je,and_self,and_true,true_and];done)|(simp only [*];omega)|(simp [*];done)|(simp [*];omega))] at hc|rewrite [if_neg (by first|omega|assumption|(simp only [*,or_self,or_true,true_or,or_false,false_or,jf,jg,jd,je,and_self,and_true,true_and];done)|(simp only [*];omega)|(simp [*];done)|(simp [*];omega))] at hc)));subst hc;((repeat(first|rewrite [if_pos (by first|omega|assumption|(simp only [*,or_self,or_true,true_or,or_false,false_or,jf,jg,jd,je,and_self,and_true,true_and];done)|(simp only [*];omega)|(simp [*];done)|(simp [*];omega))] at ht|rewrite [if_neg (by first|omega|assumption|(simp only [*,or_self,or_true,true_or,or_false,false_or,jf,jg,jd,je,and_self,and_true,true_and];done)|(simp only [*];omega)|(simp [*];done)|(simp [*];omega))] at ht)));subst ht;exact⟨rfl,rfl⟩))
 have hok:Xo m=true∧Lib.hasPrefix t [47]=true∧Lib.containsAny t [32,9]=false∧Xw t=true∧(rqHd m t).length≤200∧b.length≤4000∧fs.length≤15∧(valsF fs Yu).length+(valsF fs zc3).length=0∧(oneF (valsF fs TU)).2=0:=by
  subst hI;unfold rqHd;simp only [nrmA,nrmB,nrlB,reduceCtorEq] at *
  exact⟨by simpa using ‹Xo m=_›,by simpa using ‹Lib.hasPrefix t [47]=_›,by simpa using ‹Lib.containsAny t [32,9]=_›,by simpa using ‹Xw t=_›,by omega,by omega,by omega,by omega,by assumption⟩
 obtain⟨k1,k2,k3,k4,k5,k6,k7,k8,k9⟩:=hok
 have hc2:c=badF fs:=by
  rw [← hc,rqwC,if_neg (by rw [k1];simp),if_neg (by rw [k2];simp),if_neg (by rw [k3];simp),if_neg (by rw [k4];simp),if_neg (by omega),if_neg (by omega),if_neg (by omega),if_neg (by omega),if_neg (fun h=>h k9)]
 have ht2:badF fs=0→T=rqHd m t++[13,10]++uQ fs++zhi b.length++b:=fun h=>by
  rw [← ht,rqwT,hc,hc2,if_pos h]
 have ht3:badF fs≠0→T=[]:=fun h=>by rw [← ht,rqwT,hc,hc2,if_neg h]
 refine lpH hI [tZ,tY,wF,wE,zc1,zc0,XM,XL,Yp,Yo,qC,qB,xC,xB,Yr,Yq] hX [1,2,5,9,79,80,81] (fun(g:Nat × Str)=>match g with|(i,o)=>i≤fs.length∧o=rqHd m t++[13,10]++uQ (fs.take i)∧badF fs=badF (fs.drop i)) (fun(g:Nat × Str)=>match g with|(i,o)=>⟨[(1,.v (.one (.p (.list .byte b)))),(2,.v (.one (.ptr 0 0))),(5,.v (.one (.p (.int .i64 0)))),(9,.v (.one (.row 1))),(79,.v (.one (.p (.list .fld fs)))),(80,.v (.one (.p (.int .i64 ((I.len (α:=Fld) fs)))))),(81,.v (.one (.p (.int .i64 i))))],[.pack [.obj 30 [.p (.str m),.p (.str t),.p (.int .i64 mi),.p (.list .fld fs),.p (.int .i64 le)]],.row .byte 5 o],108,none⟩) (fun(g:Nat × Str)=>match g with|(i,o)=>fs.length - i) (0,I.app (I.app (I.app (I.app m [32]) t) [32,72,84,84,80,47,49,46,49]) [13,10]) (by kernel_rfl) (by kernel_rfl) ?_ ?_
 · refine⟨jM _,?_,rfl⟩
   subst hI;simp only [Yy,zh,rqHd,List.take_zero,uQ,List.append_nil]
 rintro⟨i,o⟩ ⟨h1,h2,h3⟩ A hA;simp only at hA h1 h2 h3
 refine orcL ?_;go_invoke;refine orcS (by kernel_rfl) ?_
 simp only [zi,Nat.reduceAdd];subst hI;simp only [nrmA,nrmB,nrlB,reduceCtorEq]
 have hx:i<fs.length→(fs.getD i ⟨[],[]⟩) ∈ fs:=fun h=>by rw [show fs.getD i ⟨[],[]⟩=fs[i] by simp [h]];exact List.getElem_mem h
 have hd:i<fs.length→_:=fun h=>zg2 (fs:=fs) (i:=i) h;have hk:i<fs.length→_:=fun h=>zcI (fs:=fs) (i:=i) h
 have hol:(uQ (fs.take i)).length≤202 * 16:=by
  have:=VA (fs.take i);rw [jv] at this;omega
 have hol2:o.length≤4000:=by rw [h2,jk,jk,jh,jh,ji];omega
 have hend: ¬ i<fs.length→badF fs=0∧uQ (fs.take i)=uQ fs:=fun h=>by
  rw [h3,jF (by omega),jq (by omega)];exact⟨rfl,rfl⟩
 have hfi:=fun h=>hf _ (hx h);have htl:=fun f=>QO f;generalize fs.getD i ⟨[],[]⟩=x at *;have e0:(⟨x.name,x.value⟩:Fld)=x:=rfl;rw [e0];have htl:=htl x
 refine⟨fun c1=>⟨⟨by omega,by omega⟩,⟨by omega,by omega⟩,hfi (by omega),fun c2=> ?_,fun c2=>⟨?_,?_,by omega,?_⟩⟩,fun c1=> ?_⟩
 · have hd:=hd (by omega)
   rw [if_neg c2] at hd
   exact⟨(ht3 (by rw [h3,hd];exact c2)).symm,by rw [hc2,h3,hd]⟩
 · simp only [jh,ji];omega
 · simp only [jk,jh,ji];omega
 · have hd:=hd (by omega)
   rw [if_pos c2] at hd
   exact hA (i+1,o++((textF x).1++[13,10])) ⟨by simp only;omega,by simp only;rw [hk (by omega),h2];simp only [jo],by simp only;rw [h3,hd]⟩ (by simp only;omega)
 · obtain⟨e1,e2⟩:=hend (by omega)
   simp only [jk,jh,ji]
   refine⟨by omega,by omega,by omega,by omega,by omega,?_,by rw [hc2,e1]⟩
   rw [ht2 e1,h2,e2];unfold zhi;simp only [jo]
def zhB:Know Tryz.prog:=⟨104,Zh,zah⟩
def zhA:Know Tryz.prog:=⟨104,fun I=>zu I (Zh I),zf zah⟩
end Go.Proofs.YtkjepecoodjbmaaGreatDoor
namespace Go.Proofs.YtkjepecoodjbmaaGreatDoor
open Go Go.Sep Go.Ab
set_option maxRecDepth 100000
def Y4 (I:Alg):KU
 |[.v (.one (.ptr 0 0))],[.obj 50 [.ptr 1 0,.ptr 2 0,.ptr 3 0,.ptr 4 0,.ptr 5 0],.pack [.obj 54 [.ptr 1 0,.ptr 2 0],.pack [.obj 124 [.row 1,.p (.int .i64 n)],.row .upl 81 l],.pack [.obj 156 [.row 1,.p (.int .i64 s)],.row .byte 5 b]],.abs (.cn c0),.abs (.cn c1),.abs (.cn c2),.abs (.cn c3)]=>(fun(l:List Upl) (b:Str)=>(some (.one ⟨I.hid (True),(.ret (.tup [])),[.obj 50 [.ptr 1 0,.ptr 6 0,.ptr 7 0,.ptr 8 0,.ptr 9 0],.pack [.obj 54 [.ptr 1 0,.ptr 2 0],.pack [.obj 124 [.row 1,.p (.int .i64 n)],.row .upl 81 l],.pack [.obj 156 [.row 1,.p (.int .i64 s)],.row .byte 5 b]],.abs (.cn c0),.abs (.cn c1),.abs (.cn c2),.abs (.cn c3),.abs (.cn cn0),.abs (.cn cn0),.abs (.cn cn0),.abs (.cn cn0)]⟩):Option CT)) l b
 |_,_=>none
theorem zcn:zx Tryz.prog 41 (Y4 alg):=by
 intro args hp r h;unfold Y4 at h;split at h<;>cases h
 rename_i n l s b c0 c1 c2 c3
 revert l;intro(l:List Upl)
 simp only [CT.Good,zh];intro _
 refine spH Tryz.func41 (by kernel_rfl) { cfgG with keep:=some [0,2,3]} [YP,YO,Y6,Y5] (by kernel_rfl) ?_
 intro I X hI hX
 refine orcL ?_;go_invoke;refine orcS (by kernel_rfl) ?_
 simp only [zi,Nat.reduceAdd]
 refine lpH hI [YP,YO,Y6,Y5] hX [0,3] (fun i:Nat=>i≤4) (fun i:Nat=>match i with
  |0=>⟨[(0,.v (.one (.ptr 0 0))),(3,.v (.one (.p (.int .i64 0))))],[.obj 50 [.ptr 1 0,.ptr 2 0,.ptr 3 0,.ptr 4 0,.ptr 5 0],.pack [.obj 54 [.ptr 1 0,.ptr 2 0],.pack [.obj 124 [.row 1,.p (.int .i64 n)],.row .upl 81 l],.pack [.obj 156 [.row 1,.p (.int .i64 s)],.row .byte 5 b]],.abs (.cn c0),.abs (.cn c1),.abs (.cn c2),.abs (.cn c3)],15,none⟩
  |1=>⟨[(0,.v (.one (.ptr 0 0))),(3,.v (.one (.p (.int .i64 1))))],[.obj 50 [.ptr 1 0,.ptr 6 0,.ptr 3 0,.ptr 4 0,.ptr 5 0],.pack [.obj 54 [.ptr 1 0,.ptr 2 0],.pack [.obj 124 [.row 1,.p (.int .i64 n)],.row .upl 81 l],.pack [.obj 156 [.row 1,.p (.int .i64 s)],.row .byte 5 b]],.abs (.cn c0),.abs (.cn c1),.abs (.cn c2),.abs (.cn c3),.abs (.cn cn0)],15,none⟩
  |2=>⟨[(0,.v (.one (.ptr 0 0))),(3,.v (.one (.p (.int .i64 2))))],[.obj 50 [.ptr 1 0,.ptr 6 0,.ptr 7 0,.ptr 4 0,.ptr 5 0],.pack [.obj 54 [.ptr 1 0,.ptr 2 0],.pack [.obj 124 [.row 1,.p (.int .i64 n)],.row .upl 81 l],.pack [.obj 156 [.row 1,.p (.int .i64 s)],.row .byte 5 b]],.abs (.cn c0),.abs (.cn c1),.abs (.cn c2),.abs (.cn c3),.abs (.cn cn0),.abs (.cn cn0)],15,none⟩
  |3=>⟨[(0,.v (.one (.ptr 0 0))),(3,.v (.one (.p (.int .i64 3))))],[.obj 50 [.ptr 1 0,.ptr 6 0,.ptr 7 0,.ptr 8 0,.ptr 5 0],.pack [.obj 54 [.ptr 1 0,.ptr 2 0],.pack [.obj 124 [.row 1,.p (.int .i64 n)],.row .upl 81 l],.pack [.obj 156 [.row 1,.p (.int .i64 s)],.row .byte 5 b]],.abs (.cn c0),.abs (.cn c1),.abs (.cn c2),.abs (.cn c3),.abs (.cn cn0),.abs (.cn cn0),.abs (.cn cn0)],15,none⟩
  |_=>⟨[(0,.v (.one (.ptr 0 0))),(3,.v (.one (.p (.int .i64 4))))],[.obj 50 [.ptr 1 0,.ptr 6 0,.ptr 7 0,.ptr 8 0,.ptr 9 0],.pack [.obj 54 [.ptr 1 0,.ptr 2 0],.pack [.obj 124 [.row 1,.p (.int .i64 n)],.row .upl 81 l],.pack [.obj 156 [.row 1,.p (.int .i64 s)],.row .byte 5 b]],.abs (.cn c0),.abs (.cn c1),.abs (.cn c2),.abs (.cn c3),.abs (.cn cn0),.abs (.cn cn0),.abs (.cn cn0),.abs (.cn cn0)],15,none⟩) (fun i:Nat=>4 - i) 0 (by kernel_rfl) (by kernel_rfl) ?_ ?_
 · exact jM _
 rintro i h1 A hA
 obtain rfl|rfl|rfl|rfl|rfl:i=0∨i=1∨i=2∨i=3∨i=4:=by omega
 all_goals
  refine orcL ?_;go_invoke;refine orcS (by kernel_rfl) ?_
  simp only [zi,Nat.reduceAdd];subst hI;refine⟨fun c=> ?_,fun c=> ?_⟩
  all_goals first
   |exact absurd c (by decide)
   |exact⟨jb,by show IntKind.i64.min≤_∧_;decide,hA 1 (by decide) (by decide),jb⟩
   |exact⟨jb,by show IntKind.i64.min≤_∧_;decide,hA 2 (by decide) (by decide),jb⟩
   |exact⟨jb,by show IntKind.i64.min≤_∧_;decide,hA 3 (by decide) (by decide),jb⟩
   |exact⟨jb,by show IntKind.i64.min≤_∧_;decide,hA 4 (by decide) (by decide),jb⟩
   |exact⟨jb,jb⟩
def zl8:Know Tryz.prog:=⟨41,Y4,zcn⟩
def zl7:Know Tryz.prog:=⟨41,fun I=>zu I (Y4 I),zf zcn⟩
def cfgP:Cfg:= { sl:=cfgG.sl++[⟨85,1,.int,some 3⟩,⟨54,1000001,.byte,none⟩]}
def zdA (I:Alg):KU
 |[],[]=>some (.one ⟨I.hid (True),(.ret (.v (.one (.ptr 0 0)))),[.pack [.obj 85 [.ptr 1 0,.row 7],.obj 50 [.ptr 2 0,.ptr 3 0,.ptr 4 0,.ptr 5 0,.ptr 6 0],.pack [.obj 54 [.ptr 1 0,.ptr 2 0],.pack [.obj 124 [.row 1,.p (.int .i64 0)],.row .upl 81 (I.hid ([]))],.pack [.obj 156 [.row 1,.p (.int .i64 0)],.row .byte 5 (I.hid ([]))]],.abs (.cn cn0),.abs (.cn cn0),.abs (.cn cn0),.abs (.cn cn0),.row .int 3 (I.hid ([]))]]⟩)
 |_,_=>none
theorem zoi:zx Tryz.prog 27 (zdA alg):=by
 intro args hp r h;unfold zdA at h;split at h<;>cases h
 simp only [CT.Good,zh];intro _
 refine spH Tryz.func27 (by kernel_rfl) { cfgP with keep:=some [0]} [zm6,zm5,zuD,zuC] (by kernel_rfl) ?_
 intro I X hI hX
 refine orcL ?_;go_invoke;refine orcS (by kernel_rfl) ?_
 simp only [zi,Nat.reduceAdd];subst hI;simp only [nrmA,nrmB,nrlB,reduceCtorEq,HO.pack.injEq,HO.obj.injEq]
def zdz:Know Tryz.prog:=⟨27,zdA,zoi⟩
def zdy:Know Tryz.prog:=⟨27,fun I=>zu I (zdA I),zf zoi⟩
theorem ztT {q:Sto} {id:Int} (h: ¬ wsC q (begE id)=0) (t:List Int):Zb q id=wsS q (begE id)∧zbr q id=⟨wsC q (begE id),[],[]⟩∧zeT q id t=t:=by
 unfold zbr zeT Zb;rw [if_pos h,if_pos h,if_pos h];exact⟨rfl,rfl,rfl⟩
theorem zqW {q:Sto} {id:Int} (h:wsC q (begE id)=0) (t:List Int):Zb q id=syS (wsS q (begE id))∧zbr q id=⟨rqwC zbu (zlv id) (znh (getU (wsS q (begE id)).l id).note) (getU (wsS q (begE id)).l id).bytes,[],rqwT zbu (zlv id) (znh (getU (wsS q (begE id)).l id).note) (getU (wsS q (begE id)).l id).bytes⟩∧zeT q id t=t++[id]:=by
 have e:Zb q id=syS (wsS q (begE id)):=by unfold Zb;rw [if_neg (fun k=>k h)]
 unfold zbr zeT zni;rw [e,if_neg (fun k=>k h),if_neg (fun k=>k h)];exact⟨rfl,rfl,rfl⟩
theorem zrW {l:List Upl} {n:Int} (h:zJ l n) (id:Int):(getU l id).note.length≤100∧(getU l id).bytes.length≤2000:=by
 unfold getU
 split
 · rename_i hk
   have:=h.each _ (wO hk);exact⟨this.nl,this.bl⟩
 · exact⟨jM _,jM _⟩
theorem zoW: ∀ f ∈ [zoX],f.name.length≤1000000∧f.value.length≤1000000:=by decide
theorem ztS {x:Str} (h:x.length≤100): ∀ f ∈ [zoX]++[⟨zlq,x⟩],f.name.length≤1000000∧f.value.length≤1000000:=fun f hf=>by
 rcases List.mem_append.1 hf with k|k
 · exact zoW f k
 · rw [List.mem_singleton.1 k];exact⟨by show zlq.length≤_;decide,by show x.length≤_;omega⟩
theorem ziQ: ∀ f n,∀ x ∈ txtN 10 f n,x.toNat<128
 |0,n=>fun x h=>by cases h
 | f +1,n=>fun x h=>by
   have hd: ∀ d,d<10→(dgN d).toNat<128:=fun d h=>(by decide+kernel: ∀ d:Fin 10,(dgN d.1).toNat<128) ⟨d,h⟩
   by_cases hn:n<10
   · rw [zcX hn] at h
     rw [List.mem_singleton.1 h];exact hd n hn
   · rw [zeE hn] at h
     rcases List.mem_append.1 h with h|h
     · exact ziQ f _ x h
     · rw [List.mem_singleton.1 h];exact hd _ (Nat.mod_lt _ (by decide))
theorem zqG (id:Int): ∀ x ∈ zlv id,x.toNat<128:=fun x h=>by
 rcases List.mem_append.1 h with h|h
 · exact(by decide: ∀ x ∈ ([47,116,97,107,101,47]:Str),x.toNat<128) x h
 · exact ziQ 9 id.toNat x h
def RG (I:Alg):KU
 |[.v (.one (.ptr 0 0)),.v (.one (.p (.int .i64 id)))],[.pack [.obj 85 [.ptr 1 0,.row 7],.obj 50 [.ptr 2 0,.ptr 3 0,.ptr 4 0,.ptr 5 0,.ptr 6 0],.pack [.obj 54 [.ptr 1 0,.ptr 2 0],.pack [.obj 124 [.row 1,.p (.int .i64 n)],.row .upl 81 l],.pack [.obj 156 [.row 1,.p (.int .i64 s)],.row .byte 5 b]],.abs (.cn c0),.abs (.cn c1),.abs (.cn c2),.abs (.cn c3),.row .int 3 t]]=>(fun(l:List Upl) (b:Str) (t:List Int)=>(some (.one ⟨I.hid (zJ l n∧n≤200000∧b.length≤100000∧t.length≤1000000),(.ret (.v (.agg [.p (.int .i64 (I.hid ((zbr ⟨l,n,b,s⟩ id).c))),.p (.list .byte (I.hid ([]))),.p (.list .byte (I.hid ((zbr ⟨l,n,b,s⟩ id).u)))]))),[.pack [.obj 85 [.ptr 1 0,.row 7],.obj 50 [.ptr 2 0,.ptr 3 0,.ptr 4 0,.ptr 5 0,.ptr 6 0],.pack [.obj 54 [.ptr 1 0,.ptr 2 0],.pack [.obj 124 [.row 1,.p (.int .i64 (I.hid ((Zb ⟨l,n,b,s⟩ id).n)))],.row .upl 81 (I.hid ((Zb ⟨l,n,b,s⟩ id).l))],.pack [.obj 156 [.row 1,.p (.int .i64 (I.hid ((Zb ⟨l,n,b,s⟩ id).s)))],.row .byte 5 (I.hid ((Zb ⟨l,n,b,s⟩ id).b))]],.abs (.cn c0),.abs (.cn c1),.abs (.cn c2),.abs (.cn c3),.row .int 3 (I.hid (zeT ⟨l,n,b,s⟩ id t))]]⟩):Option CT)) l b t
 |_,_=>none
set_option maxHeartbeats 4000000 in
theorem zjP:zx Tryz.prog 60 (RG alg):=by
 intro args hp r h;unfold RG at h;split at h<;>cases h
 rename_i id n l s b c0 c1 c2 c3 t
 revert l t;intro(l:List Upl) (t:List Int)
 simp only [CT.Good,zh];intro hneed;obtain⟨hs,hn,hb,ht⟩:=hneed;have h0:=fun h=>ztT (q:=⟨l,n,b,s⟩) (id:=id) h t;have h1:=fun h=>zqW (q:=⟨l,n,b,s⟩) (id:=id) h t
 have hid:wsC ⟨l,n,b,s⟩ (begE id)=0→0≤id∧id≤n:=fun h=>by
  obtain⟨k,_⟩:=zqX h;have:=hs.ids _ (at_mem k)
  have e:=YC (l:=l) (id:=id) (by simpa using k)
  omega
 have hw:=QD hs b (begE id);have hg:=zrW hw id;generalize Zb ⟨l,n,b,s⟩ id=Q at *;generalize zbr ⟨l,n,b,s⟩ id=O at *;generalize zeT ⟨l,n,b,s⟩ id t=L at *;unfold wsC wsS syS at *
 refine spH Tryz.func60 (by kernel_rfl) { cfgP with fz:=[104],keep:=some [0,1,4,5,6,8,9,10]} [Zf,Ze,Xy,Xx,zhn,zhm,zL,zK,qC,qB,zhB,zhA] (by kernel_rfl) ?_
 intro I X hI hX
 refine orcL ?_;go_invoke;refine orcS (by kernel_rfl) ?_
 simp only [zi,Nat.reduceAdd];subst hI;simp only [nrmA,nrmB,nrlB,reduceCtorEq,HO.pack.injEq,HO.obj.injEq];rw [show(⟨5,id,0,[]⟩:Ent)=begE id from rfl];dsimp only at *;have hd:=wL id;generalize wrtC l n b (begE id)=C at *;generalize wrtL l n b (begE id)=l' at *;generalize wrtN l n b (begE id)=n' at *;generalize wrtB l n b (begE id)=b' at *;generalize getU l' id=u at *
 by_cases hC:C=0
 · have h1:=h1 hC
   have hid:=hid hC;obtain⟨e1,e2,e3⟩:=h1;subst e1 e2 e3;have hF0:=zoW;have hF1:=ztS hg.1;have hta:=zqG id;unfold znh zlv zoX zlq zbu at *;dsimp only
   (repeat' (first|refine ja ?_ ?_|intro _))<;>first|omega|exact jb|exact jc ‹False›|skip
   all_goals first
    |omega
    |exact hw
    |(simp only [jk,jh,ji];omega)
    |exact hta _ ‹_›
    |exact(hF1 _ ‹_›).1
    |exact(hF1 _ ‹_›).2
    |exact(hF0 _ ‹_›).1
    |exact(hF0 _ ‹_›).2
    |(rw [if_neg ‹¬ u.note=[]›];done)
    |(rw [if_neg ‹¬ u.note=[]›];rfl)
    |(rw [if_pos ‹u.note=[]›];done)
    |(rw [if_pos ‹u.note=[]›];rfl)
    |rfl
 · have h0:=h0 hC
   obtain⟨e1,e2,e3⟩:=h0;subst e1 e2 e3;dsimp only
   (repeat' (first|refine ja ?_ ?_|intro _))<;>first|omega|exact jb|exact jc ‹False›|skip
   all_goals rfl
def zrB:Know Tryz.prog:=⟨60,RG,zjP⟩
def zrA:Know Tryz.prog:=⟨60,fun I=>zu I (RG I),zf zjP⟩
end Go.Proofs.YtkjepecoodjbmaaGreatDoor
namespace Go.Proofs.YtkjepecoodjbmaaGreatDoor
open Go Go.Sep Go.Ab
set_option maxRecDepth 100000
def PdN (g:GS) (t:List Int) (x:Stp):Prop:=∃ (N:Nat) (m:Int),GsI g m N∧N+x.bytes.length≤30000∧25000≤m∧m+12 * x.bytes.length≤199980∧t.length≤1000000
theorem kinds (k:Int):k=1∨k=2∨k=3∨k=4∨k=5∨(k≠1∧k≠2∧k≠3∧k≠4∧k≠5):=by omega
theorem zxe (j:Int):j=0∨j=1∨j=2∨j=3∨(∃ i:Nat,j=Int.negSucc i)∨(∃ i:Nat,j=Int.ofNat (i+4)):=by
 rcases Classical.em (j<0∨4≤j) with h|h
 · exact .inr (.inr (.inr (.inr (outK h))))
 · omega
theorem ztU (q:Sto) (id:Int):(zbr q id).b=[]:=by unfold zbr;split<;>rfl
def zjW (I:Alg):KU
 |[.v (.one (.ptr 0 0)),.v (.agg [.p (.int .i64 k),.p (.int .i64 j),.p (.int .i64 m),.p (.list .byte x)])],[.pack [.obj 85 [.ptr 1 0,.row 7],.obj 50 [.ptr 2 0,.ptr 3 0,.ptr 4 0,.ptr 5 0,.ptr 6 0],.pack [.obj 54 [.ptr 1 0,.ptr 2 0],.pack [.obj 124 [.row 1,.p (.int .i64 n)],.row .upl 81 l],.pack [.obj 156 [.row 1,.p (.int .i64 s)],.row .byte 5 b]],.abs (.cn c0),.abs (.cn c1),.abs (.cn c2),.abs (.cn c3),.row .int 3 t]]=>(fun(l:List Upl) (b:Str) (t:List Int) (x:Str)=>(some (.one ⟨I.hid (PdN ⟨⟨l,n,b,s⟩,c0,c1,c2,c3⟩ t ⟨k,j,m,x⟩),(.ret (.v (.agg [.p (.int .i64 (I.hid ((doO ⟨⟨l,n,b,s⟩,c0,c1,c2,c3⟩ ⟨k,j,m,x⟩).c))),.p (.list .byte (I.hid ((doO ⟨⟨l,n,b,s⟩,c0,c1,c2,c3⟩ ⟨k,j,m,x⟩).b))),.p (.list .byte (I.hid ((doO ⟨⟨l,n,b,s⟩,c0,c1,c2,c3⟩ ⟨k,j,m,x⟩).u)))]))),[.pack [.obj 85 [.ptr 1 0,.row 7],.obj 50 [.ptr 2 0,.ptr 3 0,.ptr 4 0,.ptr 5 0,.ptr 6 0],.pack [.obj 54 [.ptr 1 0,.ptr 2 0],.pack [.obj 124 [.row 1,.p (.int .i64 (I.hid ((doP ⟨⟨⟨l,n,b,s⟩,c0,c1,c2,c3⟩,t⟩ ⟨k,j,m,x⟩).g.q.n)))],.row .upl 81 (I.hid ((doP ⟨⟨⟨l,n,b,s⟩,c0,c1,c2,c3⟩,t⟩ ⟨k,j,m,x⟩).g.q.l))],.pack [.obj 156 [.row 1,.p (.int .i64 (I.hid ((doP ⟨⟨⟨l,n,b,s⟩,c0,c1,c2,c3⟩,t⟩ ⟨k,j,m,x⟩).g.q.s)))],.row .byte 5 (I.hid ((doP ⟨⟨⟨l,n,b,s⟩,c0,c1,c2,c3⟩,t⟩ ⟨k,j,m,x⟩).g.q.b))]],.abs (.cn (I.hid ((doP ⟨⟨⟨l,n,b,s⟩,c0,c1,c2,c3⟩,t⟩ ⟨k,j,m,x⟩).g.c0))),.abs (.cn (I.hid ((doP ⟨⟨⟨l,n,b,s⟩,c0,c1,c2,c3⟩,t⟩ ⟨k,j,m,x⟩).g.c1))),.abs (.cn (I.hid ((doP ⟨⟨⟨l,n,b,s⟩,c0,c1,c2,c3⟩,t⟩ ⟨k,j,m,x⟩).g.c2))),.abs (.cn (I.hid ((doP ⟨⟨⟨l,n,b,s⟩,c0,c1,c2,c3⟩,t⟩ ⟨k,j,m,x⟩).g.c3))),.row .int 3 (I.hid ((doP ⟨⟨⟨l,n,b,s⟩,c0,c1,c2,c3⟩,t⟩ ⟨k,j,m,x⟩).t))]]⟩):Option CT)) l b t x
 |_,_=>none
set_option maxHeartbeats 8000000 in
theorem zsS:zx Tryz.prog 29 (zjW alg):=by
 intro args hp r h;unfold zjW at h;split at h<;>cases h
 rename_i k j m x n l s b c0 c1 c2 c3 t
 revert l t;intro(l:List Upl) (t:List Int)
 simp only [CT.Good,zh];intro hneed;obtain⟨N,M,hg,hx,hM0,hM,ht⟩:=hneed;have hs:=hg.q.1;have hb:=hg.q.2.1;have hn:n≤M:=hg.q.2.2.1;have hs0:0≤s:=hg.q.2.2.2.1;have hs1:s≤b.length:=hg.q.2.2.2.2
 have hF: ∀ {c:Cn},CnI c N→FdN ⟨l,n,b,s⟩ c x∧FOk c.h.fields∧c.body.length≤100000:=fun h=>⟨⟨N,M,hg.q,h,hx,hM⟩,h.2.1,by have:=h.2.2.1;dsimp only at hx;omega⟩
 have f0:=hF hg.c0;have f1:=hF hg.c1;have f2:=hF hg.c2;have f3:=hF hg.c3;dsimp only at hs hb hx hM f0 f1 f2 f3;clear hF;generalize hO:doO ⟨⟨l,n,b,s⟩,c0,c1,c2,c3⟩ ⟨k,j,m,x⟩=O;generalize hP:doP ⟨⟨⟨l,n,b,s⟩,c0,c1,c2,c3⟩,t⟩ ⟨k,j,m,x⟩=P;obtain⟨oc,ob,ou⟩:=O;obtain⟨⟨⟨l',n',b',s'⟩,d0,d1,d2,d3⟩,t'⟩:=P;unfold doP doG doT at hP;unfold doO at hO;have hj:=zxe j;have hi0:inG 0=true:=rfl;have hi1:inG 1=true:=rfl;have hi2:inG 2=true:=rfl;have hi3:inG 3=true:=rfl;have hi4: ∀ i:Nat,inG (Int.negSucc i)=false:=fun i=>rfl
 have hi5: ∀ i:Nat,inG (Int.ofNat (i+4))=false:=fun i=>by unfold inG;rw [decide_eq_false (show ¬ Int.ofNat (i+4)<4 by rw [Int.ofNat_eq_natCast];omega),Bool.and_false]
 clear hM0
 have ht0:wrtC l n b (endE m)=0→zcZ ⟨l,n,b,s⟩ m=⟨wrtL l n b (endE m),wrtN l n b (endE m),wrtB l n b (endE m),((wrtB l n b (endE m)).length:Int)⟩:=fun h=>by unfold zcZ;rw [if_neg (fun k=>k h)];rfl
 have ht1: ¬ wrtC l n b (endE m)=0→zcZ ⟨l,n,b,s⟩ m=⟨wrtL l n b (endE m),wrtN l n b (endE m),wrtB l n b (endE m),s⟩:=fun h=>by unfold zcZ;rw [if_pos (show wsC ⟨l,n,b,s⟩ (endE m)≠0 from h)];rfl
 refine spH Tryz.func29 (by kernel_rfl) { cfgP with fz:=[14],keep:=some [0,1,3,4,5,6,7,9]} [zm8,zm7,zL,zK,zhl,zhk,zgc,zgb,zga,zf9,zf8,zf7,zf6,zf5,zo6,zo5,zf3,zf2,zf1,zf0,zfZ,zfY,zfX,zfW,zo4,zo3,Y6,Y5,zl8,zl7,zrB,zrA] (by kernel_rfl) ?_
 intro I X hI hX
 rcases hj with rfl|rfl|rfl|rfl|⟨i,rfl⟩|⟨i,rfl⟩
 all_goals
  refine orcL ?_;go_invoke;refine orcS (by kernel_rfl) ?_
  simp only [zi,Nat.reduceAdd];subst hI;simp only [nrmA,nrmB,nrlB,reduceCtorEq,HO.pack.injEq,HO.obj.injEq,HO.abs.injEq,Gh.cn.injEq]
  try rw [show(⟨6,m,0,[]⟩:Ent)=endE m from rfl]
  rcases kinds k with rfl|rfl|rfl|rfl|rfl|⟨k1,k2,k3,k4,k5⟩
  all_goals
   simp [hi0,hi1,hi2,hi3,hi4,hi5,GS.at,GS.put,GS.set, *] at hP hO
   obtain⟨⟨e,rfl,rfl,rfl,rfl⟩,rfl⟩:=hP
   try(obtain⟨rfl,rfl,rfl⟩:=hO)
   (repeat' (first|refine ja ?_ ?_|intro _))<;>first|omega|exact jb|exact jc ‹False›|skip
   all_goals first
    |exact hs
    |exact f0.1
    |exact f1.1
    |exact f2.1
    |exact f3.1
    |exact f0.2.1.1
    |exact(f0.2.1.2 _ ‹_›).1
    |exact(f0.2.1.2 _ ‹_›).2
    |exact f1.2.1.1
    |exact(f1.2.1.2 _ ‹_›).1
    |exact(f1.2.1.2 _ ‹_›).2
    |exact f2.2.1.1
    |exact(f2.2.1.2 _ ‹_›).1
    |exact(f2.2.1.2 _ ‹_›).2
    |exact f3.2.1.1
    |exact(f3.2.1.2 _ ‹_›).1
    |exact(f3.2.1.2 _ ‹_›).2
    |rfl
    |(rw [e];done)
    |(obtain⟨rfl,rfl,rfl,rfl⟩:=e;rfl)
    |(have e:=(ht0 ‹_›).symm.trans e;cases e;rfl)
    |(have e:=(ht1 ‹_›).symm.trans e;cases e;rfl)
    |(have e0:=ztU ⟨l,n,b,s⟩ m;rw [hO] at e0 ⊢;cases e0;rfl)
    |(unfold crsQ at e;cases e;rfl)
def zjV:Know Tryz.prog:=⟨29,zjW,zsS⟩
def zjU:Know Tryz.prog:=⟨29,fun I=>zu I (zjW I),zf zsS⟩
end Go.Proofs.YtkjepecoodjbmaaGreatDoor
namespace Go.Proofs.YtkjepecoodjbmaaGreatDoor
open Go Go.Sep Go.Ab
set_option maxRecDepth 100000
end Go.Proofs.YtkjepecoodjbmaaGreatDoor
namespace Go.Proofs.YtkjepecoodjbmaaGreatDoor
open Go Go.Sep Go.Ab
set_option maxRecDepth 100000
def WT (I:Alg):KU
 |[.v (.one (.ptr 0 0))],[.pack [.obj 85 [.ptr 1 0,.row 7],.obj 50 [.ptr 2 0,.ptr 3 0,.ptr 4 0,.ptr 5 0,.ptr 6 0],.pack [.obj 54 [.ptr 1 0,.ptr 2 0],.pack [.obj 124 [.row 1,.p (.int .i64 n)],.row .upl 81 l],.pack [.obj 156 [.row 1,.p (.int .i64 s)],.row .byte 5 b]],.abs (.cn c0),.abs (.cn c1),.abs (.cn c2),.abs (.cn c3),.row .int 3 t]]=>(fun(l:List Upl) (b:Str) (t:List Int)=>(some (.one ⟨I.hid (t.length≤1000000),(.ret (.v (.one (.row 1)))),[.pack [.obj 85 [.ptr 1 0,.row 7],.obj 50 [.ptr 2 0,.ptr 3 0,.ptr 4 0,.ptr 5 0,.ptr 6 0],.pack [.obj 54 [.ptr 1 0,.ptr 2 0],.pack [.obj 124 [.row 1,.p (.int .i64 n)],.row .upl 81 l],.pack [.obj 156 [.row 1,.p (.int .i64 s)],.row .byte 5 b]],.abs (.cn c0),.abs (.cn c1),.abs (.cn c2),.abs (.cn c3),.row .int 3 t],.row .int 3 t]⟩):Option CT)) l b t
 |_,_=>none
theorem zfl:zx Tryz.prog 31 (WT alg):=by
 intro args hp r h;unfold WT at h;split at h<;>cases h
 rename_i n l s b c0 c1 c2 c3 t
 revert l t;intro(l:List Upl) (t:List Int)
 simp only [CT.Good,zh];intro hneed
 refine spH Tryz.func31 (by kernel_rfl) { cfgP with keep:=some [0,2]} [] (by kernel_rfl) ?_
 intro I X hI hX
 refine orcL ?_;go_invoke;refine orcS (by kernel_rfl) ?_
 simp only [zi,Nat.reduceAdd];subst hI;simp only [nrmA,nrmB,nrlB,reduceCtorEq,HO.pack.injEq,HO.obj.injEq]
 (repeat' (first|refine ja ?_ ?_|intro _))<;>first|omega|exact jb|exact jc ‹False›|skip
def zoc:Know Tryz.prog:=⟨31,WT,zfl⟩
def zob:Know Tryz.prog:=⟨31,fun I=>zu I (WT I),zf zfl⟩
def sumX:Int→List Stp→Int
 |n,[]=>n
 |n,x::l=>sumX (IntKind.i64.wrap (n+x.bytes.length)) l
def bytP:List Stp→Int
 |[]=>0
 |x::l=>x.bytes.length+bytP l
theorem zem: ∀ l:List Stp,0≤bytP l
 |[]=>Int.le_refl _
 |x::l=>by have:=zem l;simp only [bytP];omega
def StW (x:Stp):Prop:=x.bytes.length≤140737488355328
theorem zbG: ∀ (l:List Stp) (n:Int),0≤n→n+l.length * 140737488355328≤9000000000000000000→(∀ x ∈ l,StW x)→sumX n l=n+bytP l
 |[],n,_,_,_=>by simp [sumX,bytP]
 | x::l,n,h0,h,hw=>by
   have hx:=hw x List.mem_cons_self;unfold StW at hx;simp only [jh] at h
   rw [sumX,QE (k:=.i64) (by rw [Yx,Ux,Uy];omega),zbG l _ (by omega) (by omega) fun y hy=>hw y (List.mem_cons_of_mem _ hy)]
   simp only [bytP];omega
def zfR (l:List Stp):Bool:=decide (100<l.length)||decide (12000<sumX 0 l)
def Vh (I:Alg):KU
 |[.v (.one (.p (.list .stp l)))],[]=>(fun(l:List Stp)=>(some (.one ⟨I.hid (l.length≤140737488355328),(.ret (.v (.one (.p (.bool (I.hid (zfR l))))))),[]⟩):Option CT)) l
 |_,_=>none
theorem zfQ:zx Tryz.prog 26 (Vh alg):=by
 intro args hp r h;unfold Vh at h;split at h<;>cases h
 rename_i l
 revert l;intro(l:List Stp)
 simp only [CT.Good,zh];intro hneed;generalize hr:zfR l=r
 refine spH Tryz.func26 (by kernel_rfl) { wrp:=true,keep:=some [0,2,3,4]} [] (by kernel_rfl) ?_
 intro I X hI hX
 refine orcL ?_;go_invoke;refine orcS (by kernel_rfl) ?_
 simp only [zi,Nat.reduceAdd]
 refine lpH hI [] hX [0,3,4] (fun(g:Nat × Int)=>match g with|(i,n)=>i≤l.length∧sumX n (l.drop i)=sumX 0 l) (fun(g:Nat × Int)=>match g with|(i,n)=>⟨[(0,.v (.one (.p (.list .stp l)))),(3,.v (.one (.p (.int .i64 n)))),(4,.v (.one (.p (.int .i64 i))))],[],26,none⟩) (fun(g:Nat × Int)=>match g with|(i,n)=>l.length - i) (0,0) (by kernel_rfl) (by kernel_rfl) ?_ ?_
 · exact⟨jM _,rfl⟩
 rintro⟨i,n⟩ ⟨h1,h2⟩ A hA;simp only at hA
 refine orcL ?_;go_invoke;refine orcS (by kernel_rfl) ?_
 simp only [zi,Nat.reduceAdd];subst hI;simp only [nrmA,nrmB]
 have hd:i<l.length→sumX n (l.drop i)=sumX (IntKind.i64.wrap (n+(l.getD i ⟨0,0,0,[]⟩).bytes.length)) (l.drop (i+1)):=fun h=>by
  rw [jE h,sumX];simp [h]
 have hend: ¬ i<l.length→n=sumX 0 l:=fun h=>by rw [← h2,jF (by omega)];rfl
 generalize l.getD i ⟨0,0,0,[]⟩=x at *
 have hrm:r=(decide (100<l.length)||decide (12000<sumX 0 l)):=hr.symm
 refine⟨fun c=>⟨by omega,by omega,?_⟩,fun c=>⟨fun c2=> ?_,fun c2=> ?_⟩⟩
 · rw [show IntKind.i64.wrap ((i:Int)+1)=((i+1:Nat):Int) from QE (k:=.i64) (by rw [Yx,Ux,Uy];omega)]
   exact hA (i+1,IntKind.i64.wrap (n+x.bytes.length)) ⟨by simp only;omega,by simp only;rw [← hd (by omega),h2]⟩ (by simp only;omega)
 · rw [hrm,decide_eq_true (by omega),Bool.true_or]
 · rw [hrm,hend (by omega),decide_eq_false (p:=100<l.length) (by omega),Bool.false_or]
def zaQ:Know Tryz.prog:=⟨26,Vh,zfQ⟩
def zaP:Know Tryz.prog:=⟨26,fun I=>zu I (Vh I),zf zfQ⟩
theorem zl5 {l:List Stp} (hw: ∀ x ∈ l,StW x) (h:zfR l=false):l.length≤100∧bytP l≤12000:=by
 unfold zfR at h;simp only [Bool.or_eq_false_iff,decide_eq_false_iff_not] at h
 have e:=zbG l 0 (Int.le_refl _) (by omega) hw
 exact⟨by omega,by omega⟩
structure PsI (p:PS) (m:Int) (N:Nat) (k:Nat):Prop where
 g:GsI p.g m N
 t:p.t.length≤k
theorem ps_0:PsI ps0 25000 0 0:=⟨zdS gi_0 (by decide) (jL _),jL _⟩
theorem zt0 {p:PS} {m:Int} {N k:Nat} (h:PsI p m N k) (hm:25000≤m) (x:Stp) (hb:N+x.bytes.length≤1000000):PsI (doP p x) (m+12 * x.bytes.length+1) (N+x.bytes.length) (k+1):=by
 refine⟨zw9 h.g hm x hb,?_⟩;have:=h.t
 show(doT p x).length≤_
 unfold doT zeT
 repeat' split
 all_goals first|omega|(rw [jk,jr];omega)
theorem zar {p:PS} {m:Int} {N k:Nat} (h:PsI p m N k) (hm:25000≤m) (x:Stp) (hb:N+x.bytes.length≤30000) (hc:m+12 * x.bytes.length≤199980) (hk:k≤1000000):PdN p.g p.t x:=⟨N,m,h.g,hb,hm,hc,Nat.le_trans h.t hk⟩
end Go.Proofs.YtkjepecoodjbmaaGreatDoor
namespace Go.Proofs.YtkjepecoodjbmaaGreatDoor
open Go Go.Sep Go.Ab
set_option maxRecDepth 100000
def begP:Str:=[80,79,83,84,32,47,102,105,108,101,115,32,72,84,84,80,47,49,46,49,13,10,72,111,115,116,58,32,97,13,10,84,117,115,45,82,101,115,117,109,97,98,108,101,58,32,49,46,48,46,48,13,10,85,112,108,111,97,100,45,76,101,110,103,116,104,58,32,48,13,10,13,10]
def stA:Stp:=⟨1,0,0,begP⟩
def stB:Stp:=⟨3,0,1,[]⟩
def psA:PS:=doP ps0 stA
def psB:PS:=doP psA stB
theorem zu9:(doO gs0 stA).c=0∧0<(doO gs0 stA).b.length∧(doO psA.g stB).c=0∧(doO psA.g stB).u=[80,79,83,84,32,47,116,97,107,101,47,49,32,72,84,84,80,47,49,46,49,13,10,72,111,115,116,58,32,105,110,108,97,110,100,13,10,67,111,110,116,101,110,116,45,76,101,110,103,116,104,58,32,48,13,10,13,10]∧(doO psB.g stB).c=19∧(doP psB stB).t.length=1:=by decide+kernel
theorem zts (p:PS) (x:Stp):doP ⟨⟨⟨p.g.q.l,p.g.q.n,p.g.q.b,p.g.q.s⟩,p.g.c0,p.g.c1,p.g.c2,p.g.c3⟩,p.t⟩ x=doP p x∧doO ⟨⟨p.g.q.l,p.g.q.n,p.g.q.b,p.g.q.s⟩,p.g.c0,p.g.c1,p.g.c2,p.g.c3⟩ x=doO p.g x∧PdN ⟨⟨p.g.q.l,p.g.q.n,p.g.q.b,p.g.q.s⟩,p.g.c0,p.g.c1,p.g.c2,p.g.c3⟩ p.t x=PdN p.g p.t x:=⟨rfl,rfl,rfl⟩
def rU (I:Alg):KU
 |[],[]=>some (.one ⟨I.hid (True),(.ret (.v (.one (.p (.bool true))))),[]⟩)
 |_,_=>none
set_option maxHeartbeats 4000000 in
theorem Tf:zx Tryz.prog 25 (rU alg):=by
 intro args hp r h;unfold rU at h;split at h<;>cases h
 simp only [CT.Good,zh];intro _;obtain⟨h1,h2,h3,h4,h5,h6⟩:=zu9
 have i1:=zt0 ps_0 (Int.le_refl _) stA (by decide)
 have i2:=zt0 i1 (by decide) stB (by decide)
 have n1:=zar ps_0 (by decide) stA (by decide) (by decide) (by decide)
 have n2:=zar i1 (by decide) stB (by decide) (by decide) (by decide)
 have n3:=zar i2 (by decide) stB (by decide) (by decide) (by decide)
 refine spH Tryz.func25 (by kernel_rfl) { cfgP with keep:=some [0,1,2,3,4]} [zdz,zdy,zjV,zjU,zoc,zob] (by kernel_rfl) ?_
 intro I X hI hX
 refine orcL ?_;go_invoke;refine orcS (by kernel_rfl) ?_
 simp only [zi,Nat.reduceAdd];subst hI;simp only [nrmA,nrmB,nrlB,reduceCtorEq,Int.reduceToNat,UInt8.reduceOfNat,Int.reduceLE,and_self];simp only [show([80,79,83,84,32,47,102,105,108,101,115,32,72,84,84,80,47,49,46,49,13,10,72,111,115,116,58,32,97,13,10,84,117,115,45,82,101,115,117,109,97,98,108,101,58,32,49,46,48,46,48,13,10,85,112,108,111,97,100,45,76,101,110,103,116,104,58,32,48,13,10,13,10]:Str)=begP from rfl];rw [show(⟨1,0,0,begP⟩:Stp)=stA from rfl,show(⟨3,0,1,[]⟩:Stp)=stB from rfl];simp only [show doP ⟨⟨⟨[],0,[],0⟩,cn0,cn0,cn0,cn0⟩,[]⟩ stA=psA from rfl,show doO ⟨⟨[],0,[],0⟩,cn0,cn0,cn0,cn0⟩ stA=doO gs0 stA from rfl,zts,show doP psA stB=psB from rfl]
 exact⟨by decide,n1,n2,n3,fun _=>⟨fun _=>⟨fun _=>⟨fun _=>⟨fun _=>⟨by omega,by omega⟩,h5⟩,h4⟩,h3⟩,by omega⟩,h1⟩
def Yb:Know Tryz.prog:=⟨25,rU,Tf⟩
def Ya:Know Tryz.prog:=⟨25,fun I=>zu I (rU I),zf Tf⟩
end Go.Proofs.YtkjepecoodjbmaaGreatDoor
namespace Go.Proofs.YtkjepecoodjbmaaGreatDoor
open Go Go.Sep Go.Ab
end Go.Proofs.YtkjepecoodjbmaaGreatDoor
namespace Go.Proofs.YtkjepecoodjbmaaGreatDoor
open Go Go.Sep Go.Ab
def stp0:Stp:=⟨0,0,0,[]⟩
structure LpI (l:List Stp) (i:Nat) (p:PS):Prop where
 le:i≤l.length
 ps:PsI p (25000+12 * bytP (l.take i)+i) (bytP (l.take i)).toNat i
 fu:Full p.g.q
theorem lp_0 (l:List Stp):LpI l 0 ps0:=⟨jM _,ps_0,zwa⟩
theorem zen: ∀ a b:List Stp,bytP (a++b)=bytP a+bytP b
 |[],b=>by simp [bytP]
 |x::a,b=>by have:=zen a b;simp only [List.cons_append,bytP];omega
theorem zg0 (l:List Stp) (i:Nat):bytP (l.take i)≤bytP l:=by
 have h:=zen (l.take i) (l.drop i);have:=zem (l.drop i);rw [List.take_append_drop] at h;omega
theorem lp_s {l:List Stp} {i:Nat} {p:PS} (h:LpI l i p) (hi:i<l.length) (hl:l.length≤100∧bytP l≤12000):PdN p.g p.t (l.getD i stp0)∧LpI l (i+1) (doP p (l.getD i stp0)):=by
 have e:l.getD i stp0=l[i]:=by simp [hi]
 have e2:bytP (l.take (i+1))=bytP (l.take i)+l[i].bytes.length:=by rw [jB hi,zen];simp [bytP]
 have h0:=zem (l.take i);have h1:=zg0 l (i+1);rw [e]
 refine⟨zar h.ps (by omega) _ (by omega) (by omega) (by omega),hi,?_,?_⟩
 · have:=zt0 h.ps (by omega) l[i] (by omega)
   rw [e2]
   rw [show(bytP (l.take i)+l[i].bytes.length).toNat=(bytP (l.take i)).toNat+l[i].bytes.length by omega]
   exact⟨zdS this.g (by omega) (jL _),this.t⟩
 · exact zuH h.ps.g _ (by omega) (by omega) h.fu
structure EdI (p:PS):Prop where
 ps:PsI p 170000 12000 100
 fu:Full p.g.q
theorem zvX {l:List Stp} {p:PS} {i:Nat} (h:LpI l i p) (hi: ¬ i<l.length) (hl:l.length≤100∧bytP l≤12000):EdI p:=by
 have:=zg0 l i;have h0:=h.le;have h1:=zem (l.take i)
 exact⟨⟨zdS h.ps.g (by omega) (by omega),by have:=h.ps.t;omega⟩,h.fu⟩
def crS (k:Int):Stp:=⟨5,0,k,[]⟩
theorem zwu {p:PS} (h:Full p.g.q) (k:Int):doP p (crS k)=⟨⟨p.g.q,cn0,cn0,cn0,cn0⟩,p.t⟩:=by
 unfold doP doG doT crS
 simp [zks h]
theorem ztu {p:PS} (h:EdI p) (k:Int):PdN p.g p.t (crS k)∧doP p (crS k)=⟨⟨p.g.q,cn0,cn0,cn0,cn0⟩,p.t⟩∧EdI (doP p (crS k)):=by
 have e:=zwu h.fu k
 refine⟨zar h.ps (by decide) _ (show 12000+0≤30000 by decide) (show(170000:Int)+12 * 0≤199980 by decide) (by decide),e,?_⟩
 rw [e]
 exact⟨⟨⟨h.ps.g.q,vK zbz (by decide),vK zbz (by decide),vK zbz (by decide),vK zbz (by decide)⟩,h.ps.t⟩,h.fu⟩
end Go.Proofs.YtkjepecoodjbmaaGreatDoor
namespace Go.Proofs.YtkjepecoodjbmaaGreatDoor
open Go Go.Sep Go.Ab
set_option maxRecDepth 100000
def X9 (I:Alg):KU
 |[.v (.one (.p (.list .upl l))),.v (.one (.p (.list .upl m)))],[]=>(fun(l m:List Upl)=>(some (.one ⟨I.hid (l.length≤1000000∧m.length≤1000000),(.ret (.v (.one (.p (.bool (I.hid (decide (l=m)))))))),[]⟩):Option CT)) l m
 |_,_=>none
set_option maxHeartbeats 4000000 in
theorem zeV:zx Tryz.prog 16 (X9 alg):=by
 intro args hp r h;unfold X9 at h;split at h<;>cases h
 rename_i l m
 revert l m;intro(l:List Upl) (m:List Upl)
 simp only [CT.Good,zh];intro hneed;obtain⟨hl,hm⟩:=hneed;generalize hr:decide (l=m)=r
 refine spH Tryz.func16 (by kernel_rfl) { keep:=some [0,1,4,5]} [wX,wW,Zd,Zc,Z5,Z4] (by kernel_rfl) ?_
 intro I X hI hX
 refine orcL ?_;go_invoke;refine orcS (by kernel_rfl) ?_
 simp only [zi,Nat.reduceAdd];refine⟨fun c1=> ?_,fun c1=> ?_⟩
 · subst hI
   simp only [nrmA,nrmB] at c1;simp only [nrmA,nrmB];rw [← hr]
   exact(decide_eq_false fun e=>c1 (by rw [e])).symm
 have hlm:l.length=m.length:=by
  subst hI;simp only [nrmA,nrmB] at c1;omega
 refine lpH hI [wX,wW,Zd,Zc,Z5,Z4] hX [0,1,5] (fun(i:Nat)=>i≤l.length∧r=decide (l.drop i=m.drop i)) (fun(i:Nat)=>⟨[(0,.v (.one (.p (.list .upl l)))),(1,.v (.one (.p (.list .upl m)))),(5,.v (.one (.p (.int .i64 i))))],[],81,none⟩) (fun(i:Nat)=>l.length - i) 0 (by kernel_rfl) (by kernel_rfl) ?_ ?_
 · exact⟨jM _,hr.symm⟩
 rintro i ⟨h1,h2⟩ A hA
 refine orcL ?_;go_invoke;refine orcS (by kernel_rfl) ?_
 simp only [zi,Nat.reduceAdd];subst hI;simp only [nrmA,nrmB,nrlB,reduceCtorEq]
 have hd:i<l.length→_:=fun h=>Zp (l:=l) (m:=m) (i:=i) h (by omega)
 have hend: ¬ i<l.length→r=true:=fun h=>by
  rw [h2,jF (by omega),jF (by omega)];simp
 generalize l.getD i ⟨0,0,[],[],0⟩=x at *;generalize m.getD i ⟨0,0,[],[],0⟩=y at *
 have hx: ¬ x=y→i<l.length→r=false:=fun h hi=>by rw [h2,hd hi,decide_eq_false h,Bool.false_and]
 have hy:x=y→i<l.length→r=decide (l.drop (i+1)=m.drop (i+1)):=fun h hi=>by rw [h2,hd hi,decide_eq_true h,Bool.true_and]
 (repeat' (first|refine ja ?_ ?_|intro _))<;>first|omega|exact jb|exact jc ‹False›|skip
 all_goals first
  |(exact(hx (by rintro rfl;simp_all) (by omega)).symm)
  |(rw [hx (by rintro rfl;simp_all) (by omega)])
  |exact hA (i+1) ⟨by omega,hy (zhc (by assumption) (by assumption) (by assumption) (by assumption) (by assumption)) (by omega)⟩ (by omega)
  |(rw [hend (by omega)])
  |omega
def zad:Know Tryz.prog:=⟨16,X9,zeV⟩
def zac:Know Tryz.prog:=⟨16,fun I=>zu I (X9 I),zf zeV⟩
end Go.Proofs.YtkjepecoodjbmaaGreatDoor
namespace Go.Proofs.YtkjepecoodjbmaaGreatDoor
open Go Go.Sep Go.Ab
set_option maxRecDepth 100000
structure TmI (T:List (List Upl)) (n:Nat) (l:List Upl):Prop where
 last: ∃ T',T=T'++[l]
 few:T.length≤n
 each: ∀ x ∈ T,x.length≤12
theorem zsF {l:List Upl} (h:l.length≤12) (n:Nat):TmI [l] (n+1) l:=⟨⟨[],rfl⟩,by simp,fun x hx=>by rw [List.mem_singleton.1 hx];exact h⟩
theorem ztI {T:List (List Upl)} {n:Nat} {l0 l:List Upl} (h:TmI T n l0) (k:l.length≤12):TmI (T++[l]) (n+1) l:=⟨⟨T,rfl⟩,by have:=h.few;simp;omega,fun x hx=>by
 rcases List.mem_append.1 hx with y|y
 · exact h.each x y
 · rw [List.mem_singleton.1 y];exact k⟩
theorem zwO {T:List (List Upl)} {n:Nat} {l:List Upl} (h:TmI T n l) {m:Nat} (hm:m<T.length) (hne: ¬ T.getD m []=l):m+1<T.length:=by
 obtain⟨T',rfl⟩:=h.last;rw [jk,jr] at hm ⊢
 rcases Nat.lt_or_ge m T'.length with k|k
 · omega
 · exact absurd (by rw [show m=T'.length by omega];simp) hne
theorem zvi {T:List (List Upl)} {n:Nat} {l:List Upl} (h:TmI T n l):0<T.length:=by
 obtain⟨T',rfl⟩:=h.last;simp
set_option maxHeartbeats 4000000 in
theorem pKeeps_ (l:List Stp) (keep:Int) (hneed:l.length≤140737488355328∧∀ x ∈ l,StW x):Spc Tryz.prog 6 [.v (.one (.p (.list .stp l))),.v (.one (.p (.int .i64 keep)))] [] (.ret (.v (.one (.p (.bool true))))) []:=by
 obtain⟨hz,hw⟩:=hneed
 refine spH Tryz.func6 (by kernel_rfl) { cfgP with nr:=[6],keep:=some [0,1,4,5,6,7,8,9]} [Wn,Wl,Rh,Rf,Zd,Zc,Z5,Z4,zad,zac,zdz,zdy,zjV,zjU,zaQ,zaP,Yb,Ya] (by kernel_rfl) ?_
 intro I X hI hX
 refine orcL ?_;go_invoke;refine orcS (by kernel_rfl) ?_
 simp only [zi,Nat.reduceAdd]
 have hh: ∀ {α:Type} (y:α),I.hid y=y:=fun y=>by subst hI;rfl
 simp only [hh]
 (repeat' (first|refine ja ?_ ?_|intro _))
 all_goals try(subst hI;(simp only [nrmA,nrmB,nrlB,reduceCtorEq] at *);first|done|trivial|omega|exact hz|exact Q7)
 have hg:zfR l=false:=by
  subst hI;simp only [nrmA,nrmB,nrlB,reduceCtorEq] at *;assumption
 have hl:=zl5 hw hg
 have hap:I.app ([]:List (List Upl)) [[]]=[[]]:=by subst hI;rfl
 rw [hap]
 refine lpH hI [Wn,Wl,Rh,Rf,Zd,Zc,Z5,Z4,zad,zac,zdz,zdy,zjV,zjU,zaQ,zaP,Yb,Ya] hX [0,1,5,6,7] (fun(g:Nat × PS × List (List Upl))=>match g with|(i,p,T)=>LpI l i p∧TmI T (i+1) p.g.q.l) (fun(g:Nat × PS × List (List Upl))=>match g with|(i,p,T)=>⟨[(0,.v (.one (.p (.list .stp l)))),(1,.v (.one (.p (.int .i64 keep)))),(5,.v (.one (.ptr 0 0))),(6,.v (.one (.row 1))),(7,.v (.one (.p (.int .i64 i))))],[.pack [.obj 85 [.ptr 1 0,.row 7],.obj 50 [.ptr 2 0,.ptr 3 0,.ptr 4 0,.ptr 5 0,.ptr 6 0],.pack [.obj 54 [.ptr 1 0,.ptr 2 0],.pack [.obj 124 [.row 1,.p (.int .i64 p.g.q.n)],.row .upl 81 p.g.q.l],.pack [.obj 156 [.row 1,.p (.int .i64 p.g.q.s)],.row .byte 5 p.g.q.b]],.abs (.cn p.g.c0),.abs (.cn p.g.c1),.abs (.cn p.g.c2),.abs (.cn p.g.c3),.row .int 3 p.t],.row .upls 45 T],112,none⟩) (fun(g:Nat × PS × List (List Upl))=>match g with|(i,p,T)=>l.length - i) (0,ps0,[[]]) (by kernel_rfl) (by kernel_rfl) ?_ ?_
 · exact⟨lp_0 l,zsF (jM _) 0⟩
 rintro⟨i,p,T⟩ ⟨h1,h2⟩ A hA;simp only at hA h1 h2
 refine orcL ?_;go_invoke;refine orcS (by kernel_rfl) ?_
 simp only [zi,Nat.reduceAdd];simp only [hh,zts]
 have e1:I.get l ⟨0,0,0,[]⟩ (i:Int)=l.getD i stp0:=by subst hI;first|rfl|simp [stp0]
 simp only [e1];have ex: ∀ x:Stp,(⟨x.kind,x.conn,x.n,x.bytes⟩:Stp)=x:=fun _=>rfl;simp only [ex,show(⟨5,0,keep,[]⟩:Stp)=crS keep from rfl];have hS:=fun h=>lp_s h1 h hl;have hE:=fun h=>zvX h1 h hl;have hil:=h1.le;have hT:=h2.few;generalize l.getD i stp0=x at *
 (repeat' (first|refine ja ?_ ?_|intro _))
 all_goals try(subst hI;(simp only [nrmA,nrmB,nrlB,reduceCtorEq] at *);(try simp only [List.nil_append,jh,ji]);first
  |done
  |omega
  |exact(hS (by omega)).1
  |exact(hS (by omega)).2.ps.g.q.1
  |exact hA (i+1,doP p x,_) ⟨(hS (by omega)).2,zsF (hS (by omega)).2.ps.g.q.1.cnt _⟩ (by dsimp only;omega)
  |exact hA (i+1,doP p x,_) ⟨(hS (by omega)).2,ztI h2 (hS (by omega)).2.ps.g.q.1.cnt⟩ (by dsimp only;omega)
  |exact(ztu (hE (by omega)) _).1)
 have hlt: ¬ i<l.length:=by
  subst hI;simp only [nrmA,nrmB,nrlB,reduceCtorEq] at *;omega
 have hE:=hE hlt;obtain⟨-,ha1,ha⟩:=ztu hE keep
 have hq:(doP p (crS keep)).g.q=p.g.q:=by rw [ha1]
 clear hA hS h1 ex e1 ha1;generalize doP p (crS keep)=pa at *;rw [← hq] at h2;have hsl:=ha.ps.g.q.1;have hsc:=hsl.cnt;have hT0:=zvi h2
 refine lpH hI [Wn,Wl,Rh,Rf,Zd,Zc,Z5,Z4,zad,zac,zdz,zdy,zjV,zjU,zaQ,zaP,Yb,Ya] hX [5,6,9] (fun(m:Nat)=>m<T.length) (fun(m:Nat)=>⟨[(5,.v (.one (.ptr 0 0))),(6,.v (.one (.row 1))),(9,.v (.one (.p (.int .i64 m))))],[.pack [.obj 85 [.ptr 1 0,.row 7],.obj 50 [.ptr 2 0,.ptr 3 0,.ptr 4 0,.ptr 5 0,.ptr 6 0],.pack [.obj 54 [.ptr 1 0,.ptr 2 0],.pack [.obj 124 [.row 1,.p (.int .i64 pa.g.q.n)],.row .upl 81 pa.g.q.l],.pack [.obj 156 [.row 1,.p (.int .i64 pa.g.q.s)],.row .byte 5 pa.g.q.b]],.abs (.cn pa.g.c0),.abs (.cn pa.g.c1),.abs (.cn pa.g.c2),.abs (.cn pa.g.c3),.row .int 3 pa.t],.row .upls 45 T],112,none⟩) (fun(m:Nat)=>T.length - m) 0 (by kernel_rfl) (by kernel_rfl) ?_ ?_
 · exact hT0
 rintro m h1 A hA
 refine orcL ?_;go_invoke;refine orcS (by kernel_rfl) ?_
 simp only [zi,Nat.reduceAdd];subst hI;have hd1: ∀ (y z:List Upl) (i:Decidable (y=z)),(@decide (y=z) i=true)=(y=z):=fun y z i=>propext ⟨fun h=>of_decide_eq_true h,fun h=>decide_eq_true h⟩;have hd2: ∀ (y z:List Upl) (i:Decidable (y=z)),(@decide (y=z) i=false)=¬ (y=z):=fun y z i=>propext ⟨fun h=>of_decide_eq_false h,fun h=>decide_eq_false h⟩;simp only [zh,hd1,hd2];simp only [nrmA,nrmB,nrlB,reduceCtorEq]
 have hy:=h2.each (T.getD m []) (by rw [show T.getD m []=T[m] by simp [h1]];exact List.getElem_mem h1)
 have hn:=zwO h2 h1;generalize T.getD m []=y at *
 (repeat' (first|refine ja ?_ ?_|intro _))<;>first|omega|exact jb|exact jc ‹False›|skip
 all_goals first
  |omega
  |exact hsl
  |exact hA (m+1) (hn ‹_›) (by omega)
end Go.Proofs.YtkjepecoodjbmaaGreatDoor
