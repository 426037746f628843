/- Texts of this proof, one behind the other: FrmB LnA FrmC FrmD FrmE EvJ FrmF FrmG SeekP LnR FrmK FrmJ PakB FrmP PakJ PakG PakP FrmH FrmI SamF ReqN PakS ShlB PakC. -/
import Derived.Shelf.Strings.Builder1
import Derived.Shelf.Strings.Builder2
import Derived.Shelf.Strings.Trim
import Derived.Shelf.Small.Utf8
import Derived.Shelf.Small.Strs
import Derived.Shelf.Strings.BuilderF
import Derived.Shelf.Strings.BuilderK
import Derived.Shelf.Utf8.RuneCount
import Derived.Shelf.Strings.Builder2Cap
import Derived.Shelf.Strings.Search1
import Derived.Shelf.Strings.Search2
import Derived.Shelf.Strings.Search3
import Derived.Shelf.Strings.Cut
import Derived.Shelf.Strings.Count
import Derived.Shelf.LaysM
import Derived.Shelf.Strings.Shaped
import Derived.Shelf.Strings.Prefix
import Derived.Shelf.Strings.Split
import Derived.Shelf.Unicode.Decode
import Derived.Shelf.Strings.Runes
import Derived.Shelf.Strings.RuneCount
import Derived.Shelf.Strings.AsciiSet
import Derived.Shelf.Unicode.DecodeSlow
import Derived.Shelf.Unicode.DecodeAny
import Derived.Shelf.Unicode.DecodeLast
import Derived.Shelf.Strings.BuilderCap
import Derived.Shelf.Bytes.SlIndexSmall
import Derived.Shelf.Bytes.SlIndexAt
import Derived.Shelf.Bytes.SlSearch0
import Derived.Shelf.Bytes.SlSearch1
import Derived.Shelf.Bytes.SlSearch2
import Derived.Shelf.Bytes.SlIndexWhole
import Derived.Shelf.Bytes.Small
import Derived.Shelf.Bytes.IndexByte
import Derived.Test.YtjdbannldbgpeaaGreatDoorProg
import Derived.Lib.SlFresh
import Derived.WalkSmall
import Derived.Test.YtjdbannldbgpeaaGreatDoorMc
set_option linter.all false
namespace Go.Proofs.YtjdbannldbgpeaaGreatDoor
open Go Go.Sep Go.Ab
set_option maxRecDepth 100000
theorem RG: ∀ (n:Nat) (r:Str),r.length≤n→∀ v,pctM r=some v→v.length≤r.length
 |n,[],_,v,h=>by rw [pctM] at h;cases h;exact jK _
 |0,c::r,h,_,_=>by simp at h
 | n + 1,c::r,hl,v,h=>by
   rw [je] at hl;rw [pctM.eq_def] at h;simp only at h
   split at h
   · cases hp:pctM r with
     |none=>rw [hp] at h;cases h
     | some u=>
       rw [hp] at h;cases h
       have:=RG n r (by omega) u hp
       simp only [je];omega
   · split at h
     · rename_i a b r'
       split at h
       · cases h
       · cases hp:pctM r' with
         |none=>rw [hp] at h;cases h
         | some u=>
           rw [hp] at h;cases h
           have:=RG n r' (by simp only [je] at hl;omega) u hp
           simp only [je];omega
     · cases h
theorem zjR (s:Str):(extV s).length≤s.length:=by
 unfold extV extM
 split
 · simp
 · cases h:pctM (s.drop 7) with
   |none=>simp
   | some v=>
     have:=RG _ _ (jK _) v h;rw [jB] at this;simp only [Option.getD_some];omega
def PsOk (N:Nat) (l:List Fld):Prop:=l.length≤8∧∀ f ∈ l,f.value.length≤N
theorem zgX (N:Nat): ∀ (n:Nat) (s:Str) (ps:List Fld),s.length≤N→PsOk N ps→PsOk N (medL n s ps).2.1
 |0,s,ps,_,h=>h
 | n + 1, s,ps,hs,h=>by
   rw [medL];have h1:=wz (s.drop 1);have h2:=RH (skS (s.drop 1));have h3:=wz (parM (skS (s.drop 1))).2.2;rw [jB] at h1
   split
   · split
     · exact h
     · split
       · exact h
       · split
         · exact h
         · rename_i h8
           refine zgX N n _ _ (by omega) ⟨by rw [jg,jm];have:=h.1;omega,fun f hf=> ?_⟩
           rcases List.mem_append.1 hf with h5|h5
           · exact h.2 f h5
           · rw [List.mem_singleton.1 h5];omega
   · split<;>exact h
theorem zgr (s:Str):PsOk s.length (wO s).1.params:=by
 have h0:PsOk s.length []:=⟨by decide,fun f h=>by cases h⟩
 have hb: ∀ w t:Str,t.length≤s.length→PsOk s.length (medB w t).2.1.params:=fun w t ht=>by
  have h1:=wz t
  exact zgX s.length _ _ [] (by omega) h0
 have h1:=wz s;have h2:=wK (skS s);have h3:=wK ((tokE (skS s)).drop 1);rw [jB] at h3
 have hm:PsOk s.length (xu s).2.1.params:=by
  unfold xu medA
  split
  · exact h0
  · split
    · split
      · exact h0
      · exact hb _ _ (by omega)
    · exact hb _ _ (by omega)
 unfold wO
 split
 · exact h0
 · split
   · exact hm
   · exact h0
theorem zjv {N:Nat} {l:List Fld} (h: ∀ f ∈ l,f.value.length≤N) (n:Str):(getP l n).1.length≤N:=by
 unfold getP
 cases hf:l.find? (fun f=>f.name == n) with
 |none=>simp
 |some f=>exact h f (List.mem_of_find?_eq_some hf)
theorem zje {N:Nat} {l:List Fld} (h: ∀ f ∈ l,f.value.length≤N) (n:Str):(oneF (valsF l n)).1.length≤N:=by
 unfold oneF
 split
 · simp
 · split
   · rename_i h1
     match hv:valsF l n,h1 with
     | [x],_=>
       have:x ∈ valsF l n:=by rw [hv];exact List.mem_singleton.2 rfl
       unfold valsF at this;obtain⟨f,hf,rfl⟩:=List.mem_map.1 this;exact h f (List.mem_filter.1 hf).1
   · simp
def WV (I:Alg):KU
 |[.v (.one (.p (.list .fld l)))],[]=>(fun(l:List Fld)=>(some (.one ⟨I.hid (l.length≤1000∧∀ f ∈ l,f.name.length≤1000000∧f.value.length≤1000000),(.ret (.tup [.agg [.p (.str (I.hid ((xW l).1.name))),.p (.str (I.hid ((xW l).1.file))),.p (.str (I.hid ((xW l).1.type))),.nilS],.one (.p (.int .i64 (I.hid ((xW l).2))))])),[]⟩):Option CT)) l
 |_,_=>none
theorem zel:zO Tryz.prog 71 (WV alg):=by
 intro args hp r h;unfold WV at h;split at h<;>cases h
 rename_i l
 revert l;intro(l:List Fld)
 simp only [CT.Good,zI];intro hneed;obtain⟨hl,hf⟩:=hneed;generalize hr:xW l=r
 refine spH Tryz.func71 (by kernel_rfl) { raw:=true,keep:=some [0,2,3,4,5,6,7,8,9,10,11,12,13,77]} [zls,zlr,zeg,zef,zlu,zlt,VD,VB,zgA,zgz] (by kernel_rfl) ?_
 intro I X hI hX
 refine orcL ?_;go_invoke;refine orcS (by kernel_rfl) ?_
 simp only [zJ,Nat.reduceAdd]
 try rw [show([99,111,110,116,101,110,116,45,100,105,115,112,111,115,105,116,105,111,110]:Str)=wY from rfl]
 try rw [show([99,111,110,116,101,110,116,45,116,121,112,101]:Str)=Un from rfl]
 try rw [show([102,111,114,109,45,100,97,116,97]:Str)=zhP from rfl]
 try rw [show([102,105,108,101,110,97,109,101]:Str)=zhN from rfl]
 try rw [show([102,105,108,101,110,97,109,101,42]:Str)=SG from rfl]
 try rw [show([110,97,109,101]:Str)=zji from rfl]
 have hk1:wY.length≤1000000:=by decide
 have hk2:Un.length≤1000000:=by decide
 have hv:=zje (fun f h=>(hf f h).2) wY;have hp:=zgr (oneF (valsF l wY)).1;have hg:=fun n=>zjv hp.2 n;have hg1:=hg SG;have hg2:=hg zhN;have hx:=zjR (getP (wO (oneF (valsF l wY)).1).1.params SG).1;unfold xW at hr;subst hI;simp only [nrmA,nrmB,nrlB,reduceCtorEq];have hpl:=hp.1;clear hp hg;generalize oneF (valsF l Un)=t at *;generalize getP (wO (oneF (valsF l wY)).1).1.params SG=x at *;generalize getP (wO (oneF (valsF l wY)).1).1.params zhN=f at *;generalize getP (wO (oneF (valsF l wY)).1).1.params zji=n at *;generalize wO (oneF (valsF l wY)).1=m at *;generalize oneF (valsF l wY)=a at *;unfold zgp zkN partT at hr
 (repeat' (first|refine ja ?_ ?_|intro _))<;>first|omega|exact jb|exact jc ‹False›|skip
 all_goals first
  |omega
  |exact hl
  |exact hk1
  |exact hk2
  |exact(hf _ ‹_›).1
  |exact(hf _ ‹_›).2
  |exact absurd (‹extB x.fst=true›.symm.trans ‹extB x.fst=false›) (by decide)
  |(subst hr;clear hf hX hv hg1 hg2 hx hpl hl hk1 hk2;simp [*,prt0];done)
def zek:Know Tryz.prog:=⟨71,WV,zel⟩
def zej:Know Tryz.prog:=⟨71,fun I=>zT I (WV I),zi zel⟩
end Go.Proofs.YtjdbannldbgpeaaGreatDoor
namespace Go.Proofs.YtjdbannldbgpeaaGreatDoor
open Go Go.Sep Go.Ab
set_option maxRecDepth 100000
def zlx:Cfg:= { sl:=[⟨92,0,.byte,some 5⟩]}
def WL (I:Alg):KU
 |[],[]=>some (.one ⟨I.hid (True),(.ret (.v (.one (.ptr 0 0)))),[.pack [.obj 92 [.row 1,.p (.bool false),.p (.int .i64 0)],.row .byte 5 (I.hid ([]))]]⟩)
 |_,_=>none
theorem zdQ:zO Tryz.prog 33 (WL alg):=by
 intro args hp r h;unfold WL at h;split at h<;>cases h
 simp only [CT.Good,zI];intro _
 refine spH Tryz.func33 (by kernel_rfl) { zlx with keep:=some [0]} [] (by kernel_rfl) ?_
 intro I X hI hX
 refine orcL ?_;go_invoke;refine orcS (by kernel_rfl) ?_
 simp only [zJ,Nat.reduceAdd];trivial
def zdP:Know Tryz.prog:=⟨33,WL,zdQ⟩
def zdO:Know Tryz.prog:=⟨33,fun I=>zT I (WL I),zi zdQ⟩
def YC (I:Alg):KU
 |[.v (.one (.ptr 0 0)),.v (.one (.p (.int .i64 c)))],[.pack [.obj 92 [.row 1,.p (.bool cr),.p (.int .i64 code)],.row .byte 5 b]]=>(fun(b:Str)=>(some (.one ⟨I.hid (True),(.ret (.tup [.one (.p (.str (I.hid ([])))),.one (.p (.bool false)),.one (.p (.int .i64 c))])),[.pack [.obj 92 [.row 1,.p (.bool cr),.p (.int .i64 c)],.row .byte 5 b]]⟩):Option CT)) b
 |_,_=>none
theorem zaG:zO Tryz.prog 51 (YC alg):=by
 intro args hp r h;unfold YC at h;split at h<;>cases h
 rename_i c cr code b;simp only [CT.Good,zI];intro _
 refine spH Tryz.func51 (by kernel_rfl) { zlx with keep:=some [0,1,4,5,6]} [] (by kernel_rfl) ?_
 intro I X hI hX
 refine orcL ?_;go_invoke;refine orcS (by kernel_rfl) ?_
 simp only [zJ,Nat.reduceAdd];subst hI;simp only [nrmA,nrmB,nrlB,reduceCtorEq,HO.pack.injEq,HO.obj.injEq]
 try trivial
def zg5:Know Tryz.prog:=⟨51,YC,zaG⟩
def zg4:Know Tryz.prog:=⟨51,fun I=>zT I (YC I),zi zaG⟩
def YB (I:Alg):KU
 |[.v (.one (.ptr 0 0)),.v (.one (.p (.int .u8 k)))],[.pack [.obj 92 [.row 1,.p (.bool cr),.p (.int .i64 code)],.row .byte 5 b]]=>(fun(b:Str)=>(some (.one ⟨I.hid (0≤k∧k≤255∧b.length≤1000000),(.ret (.tup [.one (.p (.str (I.hid ((lnF ⟨b,cr,code⟩ (UInt8.ofNat k.toNat)).2.1)))),.one (.p (.bool (I.hid ((lnF ⟨b,cr,code⟩ (UInt8.ofNat k.toNat)).2.2.1)))),.one (.p (.int .i64 (I.hid ((lnF ⟨b,cr,code⟩ (UInt8.ofNat k.toNat)).2.2.2))))])),[.pack [.obj 92 [.row 1,.p (.bool (I.hid ((lnF ⟨b,cr,code⟩ (UInt8.ofNat k.toNat)).1.cr))),.p (.int .i64 (I.hid ((lnF ⟨b,cr,code⟩ (UInt8.ofNat k.toNat)).1.code)))],.row .byte 5 (I.hid ((lnF ⟨b,cr,code⟩ (UInt8.ofNat k.toNat)).1.b))]]⟩):Option CT)) b
 |_,_=>none
set_option maxHeartbeats 4000000 in
theorem zaF:zO Tryz.prog 34 (YB alg):=by
 intro args hp r h;unfold YB at h;split at h<;>cases h
 rename_i k cr code b;simp only [CT.Good,zI];intro hneed;obtain⟨hk0,hk1,hbl⟩:=hneed
 have hkk:((UInt8.ofNat k.toNat).toNat:Int)=k:=by rw [UInt8.toNat_ofNat',Nat.mod_eq_of_lt (by omega)];omega
 generalize hr:lnF ⟨b,cr,code⟩ (UInt8.ofNat k.toNat)=r
 have h10:UInt8.ofNat k.toNat=10↔k=10:=⟨fun h=>by rw [h] at hkk;exact hkk.symm,fun h=>by subst h;rfl⟩
 have h13:UInt8.ofNat k.toNat=13↔k=13:=⟨fun h=>by rw [h] at hkk;exact hkk.symm,fun h=>by subst h;rfl⟩
 unfold lnF zf9 at hr;rw [hkk] at hr;simp only [h10,h13] at hr;obtain⟨⟨rb,rc,rcode⟩,rt,ro,re⟩:=r
 refine spH Tryz.func34 (by kernel_rfl) { zlx with nr:=[8],keep:=some [0,1,4,5,6,7]} [vY,qK,zg5,zg4] (by kernel_rfl) ?_
 intro I X hI hX
 refine orcL ?_;go_invoke;refine orcS (by kernel_rfl) ?_
 simp only [zJ,Nat.reduceAdd];subst hI;simp only [nrmA,nrmB,nrlB,reduceCtorEq,HO.pack.injEq,HO.obj.injEq];generalize UInt8.ofNat k.toNat=c at *;cases cr
 all_goals simp only [jd,if_false,if_true] at hr
 all_goals(repeat' (first|refine ja ?_ ?_|intro _))<;>first|omega|exact jb|exact jc ‹False›|skip
 all_goals first
  |omega
  |(exfalso;simp at *;done)
  |(((repeat(first|rewrite [if_pos (by first|omega|assumption|(simp only [*,or_self,or_true,true_or,or_false,false_or,not_true_eq_false,not_false_eq_true,jd,Bool.true_eq_false,and_self,and_true,true_and];done)|(simp only [*];omega)|(simp [*];done)|(simp [*];omega))] at hr|rewrite [if_neg (by first|omega|assumption|(simp only [*,or_self,or_true,true_or,or_false,false_or,not_true_eq_false,not_false_eq_true,jd,Bool.true_eq_false,and_self,and_true,true_and];done)|(simp only [*];omega)|(simp [*];done)|(simp [*];omega))] at hr)));cases hr;first|rfl|done|with_reducible assumption|exact⟨rfl,rfl,rfl⟩|(simp;done)|(simp;omega))
def zaE:Know Tryz.prog:=⟨34,YB,zaF⟩
def zaD:Know Tryz.prog:=⟨34,fun I=>zT I (YB I),zi zaF⟩
end Go.Proofs.YtjdbannldbgpeaaGreatDoor
namespace Go.Proofs.YtjdbannldbgpeaaGreatDoor
open Go Go.Sep Go.Ab
set_option maxRecDepth 100000
def cfgF:Cfg:= { sl:=[⟨92,0,.byte,some 5⟩,⟨77,0,.byte,some 5⟩,⟨77,1,.int,some 3⟩,⟨62,3,.fld,some 53⟩,⟨62,7,.evt,some 45⟩]}
def wJ (f:Fm):Prop:=f.out.length≤10000000
def fm9 (f:Fm):Prop:=f.out.length≤9000000
theorem u8k {k:Int} (h0:0≤k) (h1:k≤255) (n:Nat) (hn:n<256):(UInt8.ofNat k.toNat=UInt8.ofNat n)=(k=n):=by
 rw [← UInt8.toNat_inj,UInt8.toNat_ofNat',UInt8.toNat_ofNat',Nat.mod_eq_of_lt hn,Nat.mod_eq_of_lt (by omega)]
 exact propext ⟨fun h=>by omega,fun h=>by omega⟩
def YJ (I:Alg):KU
 |[.v (.one (.ptr 0 0)),.v (.agg [.p (.int .i64 k),.p (.str ea),.p (.str eb),.p (.int .i64 ei),.p (.list .fld ef),.p (.int .i64 en),.p (.list .byte ebs),.p (.str ex),.p (.str ey),.p (.str ez),.p (.nl et),.p (.int .i64 ec)])],[.abs (.fm ⟨m,hd,bs,p,none,fs,pa,sk,co,out⟩)]=>(fun(m:Str) (bs:List Int) (fs:List Fld) (out:List Evt) (ea eb:Str) (ef:List Fld) (ebs ex ey ez et:Str)=>(some (.one ⟨I.hid (wJ ⟨m,hd,bs,p,none,fs,pa,sk,co,out⟩),(.ret (.tup [])),[.abs (.fm ⟨m,hd,bs,p,none,fs,pa,sk,co,(I.hid (out++[⟨k,⟨ea,eb,ei,ef,en⟩,ebs,⟨ex,ey,ez,et⟩,ec⟩]))⟩)]⟩):Option CT)) m bs fs out ea eb ef ebs ex ey ez et
 |_,_=>none
theorem zbb:zO Tryz.prog 50 (YJ alg):=by
 intro args hp r h;unfold YJ at h;split at h<;>cases h
 rename_i k ea eb ei ef en ebs ex ey ez et ec m hd bs p fs pa sk co out
 revert ef bs fs out;intro(ef:List Fld) (bs:List Int) (fs:List Fld) (out:List Evt)
 simp only [CT.Good,zI];intro hneed;unfold wJ at hneed;simp only at hneed
 refine spH Tryz.func50 (by kernel_rfl) { cfgF with keep:=some [0,1,3]} [] (by kernel_rfl) ?_
 intro I X hI hX
 refine orcL ?_;go_invoke;refine orcS (by kernel_rfl) ?_
 simp only [zJ,Nat.reduceAdd];subst hI;simp only [nrmA,nrmB,nrlB,reduceCtorEq,HO.abs.injEq,Gh.fm.injEq,Fm.mk.injEq]
 (repeat' (first|refine ja ?_ ?_|intro _))<;>first|omega|exact jb|exact jc ‹False›|skip
 all_goals first
  |omega
  |rfl
  |with_reducible assumption
  |(simp only [je,jf];omega)
  |(unfold wJ;simp only;omega)
  |(simp;done)
def wS:Know Tryz.prog:=⟨50,YJ,zbb⟩
def wQ:Know Tryz.prog:=⟨50,fun I=>zT I (YJ I),zi zbb⟩
def YI (I:Alg):KU
 |[.v (.one (.ptr 0 0)),.v (.agg [.p (.int .i64 k),.p (.str ea),.p (.str eb),.p (.int .i64 ei),.p (.list .fld ef),.p (.int .i64 en),.p (.list .byte ebs),.p (.str ex),.p (.str ey),.p (.str ez),.p (.nl et),.p (.int .i64 ec)])],[.abs (.fm ⟨m,hd,bs,p,some ln,fs,pa,sk,co,out⟩)]=>(fun(m:Str) (bs:List Int) (fs:List Fld) (out:List Evt) (ea eb:Str) (ef:List Fld) (ebs ex ey ez et:Str)=>(some (.one ⟨I.hid (wJ ⟨m,hd,bs,p,some ln,fs,pa,sk,co,out⟩),(.ret (.tup [])),[.abs (.fm ⟨m,hd,bs,p,some ln,fs,pa,sk,co,(I.hid (out++[⟨k,⟨ea,eb,ei,ef,en⟩,ebs,⟨ex,ey,ez,et⟩,ec⟩]))⟩)]⟩):Option CT)) m bs fs out ea eb ef ebs ex ey ez et
 |_,_=>none
theorem zba:zO Tryz.prog 50 (YI alg):=by
 intro args hp r h;unfold YI at h;split at h<;>cases h
 rename_i k ea eb ei ef en ebs ex ey ez et ec m hd bs p ln fs pa sk co out
 revert ef bs fs out;intro(ef:List Fld) (bs:List Int) (fs:List Fld) (out:List Evt)
 simp only [CT.Good,zI];intro hneed;unfold wJ at hneed;simp only at hneed
 refine spH Tryz.func50 (by kernel_rfl) { cfgF with keep:=some [0,1,3]} [wS,wQ] (by kernel_rfl) ?_
 intro I X hI hX
 refine orcL ?_;go_invoke;refine orcS (by kernel_rfl) ?_
 simp only [zJ,Nat.reduceAdd];subst hI;simp only [nrmA,nrmB,nrlB,reduceCtorEq,HO.abs.injEq,Gh.fm.injEq,Fm.mk.injEq]
 (repeat' (first|refine ja ?_ ?_|intro _))<;>first|omega|exact jb|exact jc ‹False›|skip
 all_goals first
  |omega
  |rfl
  |with_reducible assumption
  |(simp only [je,jf];omega)
  |(unfold wJ;simp only;omega)
  |(simp;done)
def vK:Know Tryz.prog:=⟨50,YI,zba⟩
def vJ:Know Tryz.prog:=⟨50,fun I=>zT I (YI I),zi zba⟩
theorem zd7 (m:Str) (hd:Int) (bs:List Int) (p:Int) (fs:List Fld) (pa sk co:Int) (out:List Evt) (c:Int) (hneed:wJ ⟨m,hd,bs,p,none,fs,pa,sk,co,out⟩):Spc Tryz.prog 32 [.v (.one (.ptr 0 0)),.v (.one (.p (.int .i64 c)))] [.abs (.fm ⟨m,hd,bs,p,none,fs,pa,sk,co,out⟩)] (.ret (.tup [])) [.abs (.fm ((yD ⟨m,hd,bs,p,none,fs,pa,sk,co,out⟩ c)))]:=by
 unfold wJ at hneed;simp only at hneed
 refine spH Tryz.func32 (by kernel_rfl) { cfgF with keep:=some [0,1]} [wS,wQ,vK,vJ] (by kernel_rfl) ?_
 intro I X hI hX
 refine orcL ?_;go_invoke;refine orcS (by kernel_rfl) ?_
 simp only [zJ,Nat.reduceAdd];subst hI;simp only [nrmA,nrmB,nrlB,reduceCtorEq,HO.abs.injEq,Gh.fm.injEq,Fm.mk.injEq]
 (repeat' (first|refine ja ?_ ?_|intro _))<;>first|omega|exact jb|exact jc ‹False›|skip
 all_goals first
  |omega
  |rfl
  |with_reducible assumption
  |(simp only [je,jf];omega)
  |(unfold wJ;simp only;omega)
  |(simp;done)
def Zi (I:Alg):KU
 |[.v (.one (.ptr 0 0)),.v (.one (.p (.int .i64 c)))],[.abs (.fm ⟨m,hd,bs,p,none,fs,pa,sk,co,out⟩)]=>(fun(m:Str) (bs:List Int) (fs:List Fld) (out:List Evt)=>(some (.one ⟨I.hid (wJ ⟨m,hd,bs,p,none,fs,pa,sk,co,out⟩),(.ret (.tup [])),[.abs (.fm (I.hid (yD ⟨m,hd,bs,p,none,fs,pa,sk,co,out⟩ c)))]⟩):Option CT)) m bs fs out
 |_,_=>none
theorem Sj:zO Tryz.prog 32 (Zi alg):=by
 intro args hp r h;unfold Zi at h
 split at h
 · cases h;exact fun hn=>zd7 _ _ _ _ _ _ _ _ _ _ hn
 · cases h
def zfs:Know Tryz.prog:=⟨32,Zi,Sj⟩
def zfr:Know Tryz.prog:=⟨32,fun I=>zT I (Zi I),zi Sj⟩
theorem zjK (m:Str) (hd:Int) (bs:List Int) (p:Int) (ln:Ln) (fs:List Fld) (pa sk co:Int) (out:List Evt) (c:Int) (hneed:wJ ⟨m,hd,bs,p,some ln,fs,pa,sk,co,out⟩):Spc Tryz.prog 32 [.v (.one (.ptr 0 0)),.v (.one (.p (.int .i64 c)))] [.abs (.fm ⟨m,hd,bs,p,some ln,fs,pa,sk,co,out⟩)] (.ret (.tup [])) [.abs (.fm ((yD ⟨m,hd,bs,p,some ln,fs,pa,sk,co,out⟩ c)))]:=by
 unfold wJ at hneed;simp only at hneed
 refine spH Tryz.func32 (by kernel_rfl) { cfgF with keep:=some [0,1]} [wS,wQ,vK,vJ,zfs,zfr] (by kernel_rfl) ?_
 intro I X hI hX
 refine orcL ?_;go_invoke;refine orcS (by kernel_rfl) ?_
 simp only [zJ,Nat.reduceAdd];subst hI;simp only [nrmA,nrmB,nrlB,reduceCtorEq,HO.abs.injEq,Gh.fm.injEq,Fm.mk.injEq]
 (repeat' (first|refine ja ?_ ?_|intro _))<;>first|omega|exact jb|exact jc ‹False›|skip
 all_goals first
  |omega
  |rfl
  |with_reducible assumption
  |(simp only [je,jf];omega)
  |(unfold wJ;simp only;omega)
  |(simp;done)
def YP (I:Alg):KU
 |[.v (.one (.ptr 0 0)),.v (.one (.p (.int .i64 c)))],[.abs (.fm f)]=>some (.one ⟨I.hid (wJ f),(.ret (.tup [])),[.abs (.fm (I.hid (yD f c)))]⟩)
 |_,_=>none
theorem zbj:zO Tryz.prog 32 (YP alg):=by
 intro args hp r h;unfold YP at h;split at h<;>cases h
 rename_i c f;simp only [CT.Good,zI];intro hneed;obtain⟨m,hd,bs,p,ln,fs,pa,sk,co,out⟩:=f
 cases ln with
 |none=>exact zd7 m hd bs p fs pa sk co out c hneed
 |some ln=>exact zjK m hd bs p ln fs pa sk co out c hneed
def vN:Know Tryz.prog:=⟨32,YP,zbj⟩
def vM:Know Tryz.prog:=⟨32,fun I=>zT I (YP I),zi zbj⟩
theorem Sz (m:Str) (hd:Int) (bs:List Int) (p:Int) (fs:List Fld) (pa sk co:Int) (out:List Evt) (k:Int) (hneed:wJ ⟨m,hd,bs,p,none,fs,pa,sk,co,out⟩∧0≤k∧k≤255):Spc Tryz.prog 31 [.v (.one (.ptr 0 0)),.v (.one (.p (.int .u8 k)))] [.abs (.fm ⟨m,hd,bs,p,none,fs,pa,sk,co,out⟩)] (.ret (.tup [])) [.abs (.fm ((zZ ⟨m,hd,bs,p,none,fs,pa,sk,co,out⟩ (UInt8.ofNat k.toNat))))]:=by
 obtain⟨hneed,h0,h1⟩:=hneed;have hc:=fun n=>u8k h0 h1 n
 have h45:(UInt8.ofNat k.toNat=45)=(k=45):=hc 45 (by decide)
 have h32:(UInt8.ofNat k.toNat=32)=(k=32):=hc 32 (by decide)
 have h9:(UInt8.ofNat k.toNat=9)=(k=9):=hc 9 (by decide)
 have h13:(UInt8.ofNat k.toNat=13)=(k=13):=hc 13 (by decide)
 clear hc;generalize UInt8.ofNat k.toNat=c at *;unfold wJ at hneed;simp only at hneed;generalize hr:zZ ⟨m,hd,bs,p,none,fs,pa,sk,co,out⟩ c=r;unfold zZ at hr;simp only [h45,h32,h9,h13] at hr
 refine spH Tryz.func31 (by kernel_rfl) { cfgF with keep:=some [0,1,4]} [wS,wQ,vK,vJ,vN,vM] (by kernel_rfl) ?_
 intro I X hI hX
 refine orcL ?_;go_invoke;refine orcS (by kernel_rfl) ?_
 simp only [zJ,Nat.reduceAdd];subst hI;simp only [nrmA,nrmB,nrlB,reduceCtorEq,HO.abs.injEq,Gh.fm.injEq]
 (repeat' (first|refine ja ?_ ?_|intro _))<;>first|omega|exact jb|exact jc ‹False›|skip
 all_goals first
  |omega
  |(unfold wJ;simp only;omega)
  |(subst hr;simp [*,yD,evE,hd0,prt0];done)
def uT (I:Alg):KU
 |[.v (.one (.ptr 0 0)),.v (.one (.p (.int .u8 k)))],[.abs (.fm ⟨m,hd,bs,p,none,fs,pa,sk,co,out⟩)]=>(fun(m:Str) (bs:List Int) (fs:List Fld) (out:List Evt)=>(some (.one ⟨I.hid (wJ ⟨m,hd,bs,p,none,fs,pa,sk,co,out⟩∧0≤k∧k≤255),(.ret (.tup [])),[.abs (.fm (I.hid (zZ ⟨m,hd,bs,p,none,fs,pa,sk,co,out⟩ (UInt8.ofNat k.toNat))))]⟩):Option CT)) m bs fs out
 |_,_=>none
theorem XR:zO Tryz.prog 31 (uT alg):=by
 intro args hp r h;unfold uT at h
 split at h
 · cases h;exact fun hn=>Sz _ _ _ _ _ _ _ _ _ _ hn
 · cases h
def zbm:Know Tryz.prog:=⟨31,uT,XR⟩
def zbl:Know Tryz.prog:=⟨31,fun I=>zT I (uT I),zi XR⟩
theorem zft (m:Str) (hd:Int) (bs:List Int) (p:Int) (ln:Ln) (fs:List Fld) (pa sk co:Int) (out:List Evt) (k:Int) (hneed:wJ ⟨m,hd,bs,p,some ln,fs,pa,sk,co,out⟩∧0≤k∧k≤255):Spc Tryz.prog 31 [.v (.one (.ptr 0 0)),.v (.one (.p (.int .u8 k)))] [.abs (.fm ⟨m,hd,bs,p,some ln,fs,pa,sk,co,out⟩)] (.ret (.tup [])) [.abs (.fm ((zZ ⟨m,hd,bs,p,some ln,fs,pa,sk,co,out⟩ (UInt8.ofNat k.toNat))))]:=by
 obtain⟨hneed,h0,h1⟩:=hneed;have hc:=fun n=>u8k h0 h1 n
 have h45:(UInt8.ofNat k.toNat=45)=(k=45):=hc 45 (by decide)
 have h32:(UInt8.ofNat k.toNat=32)=(k=32):=hc 32 (by decide)
 have h9:(UInt8.ofNat k.toNat=9)=(k=9):=hc 9 (by decide)
 have h13:(UInt8.ofNat k.toNat=13)=(k=13):=hc 13 (by decide)
 clear hc;generalize UInt8.ofNat k.toNat=c at *;unfold wJ at hneed;simp only at hneed;generalize hr:zZ ⟨m,hd,bs,p,some ln,fs,pa,sk,co,out⟩ c=r;unfold zZ at hr;simp only [h45,h32,h9,h13] at hr
 refine spH Tryz.func31 (by kernel_rfl) { cfgF with keep:=some [0,1,4]} [wS,wQ,vK,vJ,vN,vM,zbm,zbl] (by kernel_rfl) ?_
 intro I X hI hX
 refine orcL ?_;go_invoke;refine orcS (by kernel_rfl) ?_
 simp only [zJ,Nat.reduceAdd];subst hI;simp only [nrmA,nrmB,nrlB,reduceCtorEq,HO.abs.injEq,Gh.fm.injEq]
 (repeat' (first|refine ja ?_ ?_|intro _))<;>first|omega|exact jb|exact jc ‹False›|skip
 all_goals first
  |omega
  |(unfold wJ;simp only;omega)
  |(subst hr;simp [*,yD,evE,hd0,prt0];done)
def rE (I:Alg):KU
 |[.v (.one (.ptr 0 0)),.v (.one (.p (.int .u8 k)))],[.abs (.fm f)]=>some (.one ⟨I.hid (wJ f∧0≤k∧k≤255),(.ret (.tup [])),[.abs (.fm (I.hid (zZ f (UInt8.ofNat k.toNat))))]⟩)
 |_,_=>none
theorem Uf:zO Tryz.prog 31 (rE alg):=by
 intro args hp r h;unfold rE at h;split at h<;>cases h
 rename_i k f;simp only [CT.Good,zI];intro hneed;obtain⟨m,hd,bs,p,ln,fs,pa,sk,co,out⟩:=f
 cases ln with
 |none=>exact Sz m hd bs p fs pa sk co out k hneed
 |some ln=>exact zft m hd bs p ln fs pa sk co out k hneed
def Ue:Know Tryz.prog:=⟨31,rE,Uf⟩
def Ud:Know Tryz.prog:=⟨31,fun I=>zT I (rE I),zi Uf⟩
structure FmS (f:Fm):Prop where
 bs:f.bs=ZQ f.mark
 ml:f.mark.length≤1000000
 h0:0≤f.held
 h1:f.mark=[]∨f.held<f.mark.length
 s0:0≤f.skip∧f.skip≤2
theorem zbk (m:Str) (hd:Int) (bs:List Int) (p:Int) (fs:List Fld) (pa sk co:Int) (out:List Evt) (k:Int) (hneed:fm9 ⟨m,hd,bs,p,none,fs,pa,sk,co,out⟩∧FmS ⟨m,hd,bs,p,none,fs,pa,sk,co,out⟩∧0≤k∧k≤255):Spc Tryz.prog 30 [.v (.one (.ptr 0 0)),.v (.one (.p (.int .u8 k)))] [.abs (.fm ⟨m,hd,bs,p,none,fs,pa,sk,co,out⟩)] (.ret (.tup [])) [.abs (.fm ((yF ⟨m,hd,bs,p,none,fs,pa,sk,co,out⟩ (UInt8.ofNat k.toNat))))]:=by
 obtain⟨hneed,⟨hbs,hml,hh0,hh1,hs0⟩,h0,h1⟩:=hneed;unfold fm9 at hneed;simp only at hneed hbs hml hh0 hh1 hs0;generalize hr:yF ⟨m,hd,bs,p,none,fs,pa,sk,co,out⟩ (UInt8.ofNat k.toNat)=r;unfold yF yH fmSk at hr;simp only [Int.min_def] at hr
 refine spH Tryz.func30 (by kernel_rfl) { cfgF with fz:=[50],keep:=some [0,1,4,5,6]} [Xx,Xw,wS,wQ,vK,vJ] (by kernel_rfl) ?_
 intro I X hI hX
 refine orcL ?_;go_invoke;refine orcS (by kernel_rfl) ?_
 simp only [zJ,Nat.reduceAdd];generalize x9 m hd.toNat (UInt8.ofNat k.toNat)=q at *;obtain⟨o,n2,fd⟩:=q;subst hI;simp only [nrmA,nrmB,nrlB,reduceCtorEq,HO.abs.injEq,Gh.fm.injEq];simp only at hr
 have hn:0≤(if sk≤(o.length:Int) then sk else(o.length:Int))∧(if sk≤(o.length:Int) then sk else(o.length:Int))≤o.length∧(if sk≤(o.length:Int) then sk else(o.length:Int))≤sk:=by split<;>omega
 generalize(if sk≤(o.length:Int) then sk else(o.length:Int))=n at *
 rw [jl (show(o.drop n.toNat).length≤o.length - n.toNat by rw [jB];exact jK _)]
 have hne:0<(o.length:Int) - n→¬ o.drop n.toNat=[]:=fun h k=>by have:=congrArg List.length k;rw [jB,jf] at this;omega
 have hnn: ¬ 0<(o.length:Int) - n→o.drop n.toNat=[]:=fun h=>jE (by omega)
 generalize o.drop n.toNat=D at *
 (repeat' (first|refine ja ?_ ?_|intro _))<;>first|omega|exact jb|exact jc ‹False›|skip
 all_goals first
  |omega
  |with_reducible assumption
  |(unfold wJ;simp only [jg,jm];omega)
  |(have hne:=hne (by omega);clear hnn;subst hr;simp [*,evB,evO,hd0,prt0];done)
  |(have hnn:=hnn (by omega);clear hne;subst hr;simp [*,evB,evO,hd0,prt0];done)
  |(clear hne hnn;subst hr;simp [*,evB,evO,hd0,prt0];done)
def rD (I:Alg):KU
 |[.v (.one (.ptr 0 0)),.v (.one (.p (.int .u8 k)))],[.abs (.fm ⟨m,hd,bs,p,none,fs,pa,sk,co,out⟩)]=>(fun(m:Str) (bs:List Int) (fs:List Fld) (out:List Evt)=>(some (.one ⟨I.hid (fm9 ⟨m,hd,bs,p,none,fs,pa,sk,co,out⟩∧FmS ⟨m,hd,bs,p,none,fs,pa,sk,co,out⟩∧0≤k∧k≤255),(.ret (.tup [])),[.abs (.fm (I.hid (yF ⟨m,hd,bs,p,none,fs,pa,sk,co,out⟩ (UInt8.ofNat k.toNat))))]⟩):Option CT)) m bs fs out
 |_,_=>none
theorem Uc:zO Tryz.prog 30 (rD alg):=by
 intro args hp r h;unfold rD at h
 split at h
 · cases h;exact fun hn=>zbk _ _ _ _ _ _ _ _ _ _ hn
 · cases h
def zcr:Know Tryz.prog:=⟨30,rD,Uc⟩
def zcq:Know Tryz.prog:=⟨30,fun I=>zT I (rD I),zi Uc⟩
theorem zhH (m:Str) (hd:Int) (bs:List Int) (p:Int) (ln:Ln) (fs:List Fld) (pa sk co:Int) (out:List Evt) (k:Int) (hneed:fm9 ⟨m,hd,bs,p,some ln,fs,pa,sk,co,out⟩∧FmS ⟨m,hd,bs,p,some ln,fs,pa,sk,co,out⟩∧0≤k∧k≤255):Spc Tryz.prog 30 [.v (.one (.ptr 0 0)),.v (.one (.p (.int .u8 k)))] [.abs (.fm ⟨m,hd,bs,p,some ln,fs,pa,sk,co,out⟩)] (.ret (.tup [])) [.abs (.fm ((yF ⟨m,hd,bs,p,some ln,fs,pa,sk,co,out⟩ (UInt8.ofNat k.toNat))))]:=by
 obtain⟨hneed,⟨hbs,hml,hh0,hh1,hs0⟩,h0,h1⟩:=hneed;unfold fm9 at hneed;simp only at hneed hbs hml hh0 hh1 hs0;generalize hr:yF ⟨m,hd,bs,p,some ln,fs,pa,sk,co,out⟩ (UInt8.ofNat k.toNat)=r;unfold yF yH fmSk at hr;simp only [Int.min_def] at hr
 refine spH Tryz.func30 (by kernel_rfl) { cfgF with fz:=[50],keep:=some [0,1,4,5,6]} [Xx,Xw,wS,wQ,vK,vJ,zcr,zcq] (by kernel_rfl) ?_
 intro I X hI hX
 refine orcL ?_;go_invoke;refine orcS (by kernel_rfl) ?_
 simp only [zJ,Nat.reduceAdd];generalize x9 m hd.toNat (UInt8.ofNat k.toNat)=q at *;obtain⟨o,n2,fd⟩:=q;subst hI;simp only [nrmA,nrmB,nrlB,reduceCtorEq,HO.abs.injEq,Gh.fm.injEq];simp only at hr
 have hn:0≤(if sk≤(o.length:Int) then sk else(o.length:Int))∧(if sk≤(o.length:Int) then sk else(o.length:Int))≤o.length∧(if sk≤(o.length:Int) then sk else(o.length:Int))≤sk:=by split<;>omega
 generalize(if sk≤(o.length:Int) then sk else(o.length:Int))=n at *
 rw [jl (show(o.drop n.toNat).length≤o.length - n.toNat by rw [jB];exact jK _)]
 have hne:0<(o.length:Int) - n→¬ o.drop n.toNat=[]:=fun h k=>by have:=congrArg List.length k;rw [jB,jf] at this;omega
 have hnn: ¬ 0<(o.length:Int) - n→o.drop n.toNat=[]:=fun h=>jE (by omega)
 generalize o.drop n.toNat=D at *
 (repeat' (first|refine ja ?_ ?_|intro _))<;>first|omega|exact jb|exact jc ‹False›|skip
 all_goals first
  |omega
  |with_reducible assumption
  |(unfold wJ;simp only [jg,jm];omega)
  |(have hne:=hne (by omega);clear hnn;subst hr;simp [*,evB,evO,hd0,prt0];done)
  |(have hnn:=hnn (by omega);clear hne;subst hr;simp [*,evB,evO,hd0,prt0];done)
  |(clear hne hnn;subst hr;simp [*,evB,evO,hd0,prt0];done)
def Zk (I:Alg):KU
 |[.v (.one (.ptr 0 0)),.v (.one (.p (.int .u8 k)))],[.abs (.fm f)]=>some (.one ⟨I.hid (fm9 f∧FmS f∧0≤k∧k≤255),(.ret (.tup [])),[.abs (.fm (I.hid (yF f (UInt8.ofNat k.toNat))))]⟩)
 |_,_=>none
theorem Sv:zO Tryz.prog 30 (Zk alg):=by
 intro args hp r h;unfold Zk at h;split at h<;>cases h
 rename_i k f;simp only [CT.Good,zI];intro hneed;obtain⟨m,hd,bs,p,ln,fs,pa,sk,co,out⟩:=f
 cases ln with
 |none=>exact zbk m hd bs p fs pa sk co out k hneed
 |some ln=>exact zhH m hd bs p ln fs pa sk co out k hneed
def Sr:Know Tryz.prog:=⟨30,Zk,Sv⟩
def Sm:Know Tryz.prog:=⟨30,fun I=>zT I (Zk I),zi Sv⟩
end Go.Proofs.YtjdbannldbgpeaaGreatDoor
namespace Go.Proofs.YtjdbannldbgpeaaGreatDoor
open Go Go.Sep Go.Ab
set_option maxRecDepth 100000
theorem zjP (m:Str) (n:Nat) (c:UInt8):m=[]∨(x9 m n c).2.1<m.length:=by
 unfold x9
 by_cases h:m=[]
 · exact .inl h
 · rw [if_neg h]
   have h0:0<m.length:=by cases m<;>simp_all
   unfold P.feed;simp only
   repeat' split
   all_goals first|exact .inr h0|(right;assumption)
theorem YQ (m:Str) (n:Nat) (c:UInt8):m=[]∨(((x9 m n c).2.1:Nat):Int)<m.length:=(zjP m n c).imp id fun h=>by omega
theorem zb2 (l:List Fld):(xW l).1.bytes=[]:=by
 unfold xW zgp
 repeat' split
 all_goals rfl
def FdOk (f:List Fld):Prop:=f.length≤1000∧∀ x ∈ f,x.name.length≤1000000∧x.value.length≤1000000
structure FmB (f:Fm):Prop where
 few:f.out.length≤9000000
 sk:FmS f
 fd:FdOk f.fields
 p0:0≤f.parts∧f.parts≤12
theorem zhK (m:Str) (hd:Int) (bs:List Int) (p:Int) (fs:List Fld) (pa sk co:Int) (out:List Evt) (hneed:FmB ⟨m,hd,bs,p,none,fs,pa,sk,co,out⟩):Spc Tryz.prog 52 [.v (.one (.ptr 0 0))] [.abs (.fm ⟨m,hd,bs,p,none,fs,pa,sk,co,out⟩)] (.ret (.tup [])) [.abs (.fm ((yL ⟨m,hd,bs,p,none,fs,pa,sk,co,out⟩)))]:=by
 obtain⟨h9,⟨hbs,hml,hh0,hh1,hs0⟩,⟨hfl,hff⟩,hp0⟩:=hneed;simp only at h9 hbs hml hh0 hh1 hs0 hfl hff hp0;generalize hr:yL ⟨m,hd,bs,p,none,fs,pa,sk,co,out⟩=r;have hb:=zb2 fs;unfold yL at hr;simp only [yD,fmSk,evP,evF,jI] at hr
 refine spH Tryz.func52 (by kernel_rfl) { cfgF with keep:=some [0,2,3]} [Xx,Xw,zek,zej,wS,wQ,vK,vJ,vN,vM] (by kernel_rfl) ?_
 intro I X hI hX
 refine orcL ?_;go_invoke;refine orcS (by kernel_rfl) ?_
 simp only [zJ,Nat.reduceAdd];have hl1:=YQ m hd.toNat 13;generalize xW fs=P at *;obtain⟨⟨a,b,c,d⟩,e⟩:=P;simp only at hb hr;subst hb;subst hI;simp only [nrmA,nrmB,nrlB,reduceCtorEq,HO.abs.injEq,Gh.fm.injEq]
 (repeat' (first|refine ja ?_ ?_|intro _))<;>first|omega|exact jb|exact jc ‹False›|skip
 all_goals first
  |omega
  |with_reducible assumption
  |exact(hff _ ‹_›).1
  |exact(hff _ ‹_›).2
  |(unfold wJ;simp only [jg,jm];omega)
  |exact hl1
  |(subst hr;simp [*,evF,hd0,prt0,yD];done)
theorem zhJ (m:Str) (hd:Int) (bs:List Int) (p:Int) (ln:Ln) (fs:List Fld) (pa sk co:Int) (out:List Evt) (hneed:FmB ⟨m,hd,bs,p,some ln,fs,pa,sk,co,out⟩):Spc Tryz.prog 52 [.v (.one (.ptr 0 0))] [.abs (.fm ⟨m,hd,bs,p,some ln,fs,pa,sk,co,out⟩)] (.ret (.tup [])) [.abs (.fm ((yL ⟨m,hd,bs,p,some ln,fs,pa,sk,co,out⟩)))]:=by
 obtain⟨h9,⟨hbs,hml,hh0,hh1,hs0⟩,⟨hfl,hff⟩,hp0⟩:=hneed;simp only at h9 hbs hml hh0 hh1 hs0 hfl hff hp0;generalize hr:yL ⟨m,hd,bs,p,some ln,fs,pa,sk,co,out⟩=r;have hb:=zb2 fs;unfold yL at hr;simp only [yD,fmSk,evP,evF,jI] at hr
 refine spH Tryz.func52 (by kernel_rfl) { cfgF with keep:=some [0,2,3]} [Xx,Xw,zek,zej,wS,wQ,vK,vJ,vN,vM] (by kernel_rfl) ?_
 intro I X hI hX
 refine orcL ?_;go_invoke;refine orcS (by kernel_rfl) ?_
 simp only [zJ,Nat.reduceAdd];have hl1:=YQ m hd.toNat 13;generalize xW fs=P at *;obtain⟨⟨a,b,c,d⟩,e⟩:=P;simp only at hb hr;subst hb;subst hI;simp only [nrmA,nrmB,nrlB,reduceCtorEq,HO.abs.injEq,Gh.fm.injEq]
 (repeat' (first|refine ja ?_ ?_|intro _))<;>first|omega|exact jb|exact jc ‹False›|skip
 all_goals first
  |omega
  |with_reducible assumption
  |exact(hff _ ‹_›).1
  |exact(hff _ ‹_›).2
  |(unfold wJ;simp only [jg,jm];omega)
  |exact hl1
  |(subst hr;simp [*,evF,hd0,prt0,yD];done)
def Zl (I:Alg):KU
 |[.v (.one (.ptr 0 0))],[.abs (.fm f)]=>some (.one ⟨I.hid (FmB f),(.ret (.tup [])),[.abs (.fm (I.hid (yL f)))]⟩)
 |_,_=>none
theorem SC:zO Tryz.prog 52 (Zl alg):=by
 intro args hp r h;unfold Zl at h;split at h<;>cases h
 rename_i f;simp only [CT.Good,zI];intro hneed;obtain⟨m,hd,bs,p,ln,fs,pa,sk,co,out⟩:=f
 cases ln with
 |none=>exact zhK m hd bs p fs pa sk co out hneed
 |some ln=>exact zhJ m hd bs p ln fs pa sk co out hneed
def SB:Know Tryz.prog:=⟨52,Zl,SC⟩
def SA:Know Tryz.prog:=⟨52,fun I=>zT I (Zl I),zi SC⟩
theorem zjC (m:Str) (hd:Int) (bs:List Int) (p:Int) (fs:List Fld) (pa sk co:Int) (out:List Evt) (s:Str) (hneed:FmB ⟨m,hd,bs,p,none,fs,pa,sk,co,out⟩∧s.length≤1000000):Spc Tryz.prog 35 [.v (.one (.ptr 0 0)),.v (.one (.p (.str s)))] [.abs (.fm ⟨m,hd,bs,p,none,fs,pa,sk,co,out⟩)] (.ret (.tup [])) [.abs (.fm ((y8 ⟨m,hd,bs,p,none,fs,pa,sk,co,out⟩ s)))]:=by
 obtain⟨⟨h9,hS,⟨hfl,hff⟩,hp0⟩,hs⟩:=hneed;simp only at h9 hfl hff hp0;generalize hr:y8 ⟨m,hd,bs,p,none,fs,pa,sk,co,out⟩ s=r;unfold y8 at hr;simp only at hr
 refine spH Tryz.func35 (by kernel_rfl) { cfgF with keep:=some [0,1,4,5]} [zdp,zdo,vN,vM,SB,SA] (by kernel_rfl) ?_
 intro I X hI hX
 refine orcL ?_;go_invoke;refine orcS (by kernel_rfl) ?_
 simp only [zJ,Nat.reduceAdd];generalize xM s=y at *;obtain⟨⟨a,b⟩,e⟩:=y;subst hI;simp only [nrmA,nrmB,nrlB,reduceCtorEq,HO.abs.injEq,Gh.fm.injEq]
 (repeat' (first|refine ja ?_ ?_|intro _))<;>first|omega|exact jb|exact jc ‹False›|skip
 all_goals first
  |omega
  |with_reducible assumption
  |exact⟨h9,hS,⟨hfl,hff⟩,hp0⟩
  |(unfold wJ;simp only;omega)
  |(simp only [jm];omega)
  |(subst hr;simp [*,yD];done)
  |(subst hr;rw [if_pos ‹s=[]›];done)
  |(subst hr;rw [if_neg ‹¬ s=[]›,if_pos (by omega)];done)
  |(subst hr;rw [if_neg ‹¬ s=[]›,if_neg (by omega),if_pos ‹¬ e=0›];done)
  |(subst hr;rw [if_neg ‹¬ s=[]›,if_neg (by omega),if_neg (fun h=>h ‹e=0›)];done)
theorem zjB (m:Str) (hd:Int) (bs:List Int) (p:Int) (ln:Ln) (fs:List Fld) (pa sk co:Int) (out:List Evt) (s:Str) (hneed:FmB ⟨m,hd,bs,p,some ln,fs,pa,sk,co,out⟩∧s.length≤1000000):Spc Tryz.prog 35 [.v (.one (.ptr 0 0)),.v (.one (.p (.str s)))] [.abs (.fm ⟨m,hd,bs,p,some ln,fs,pa,sk,co,out⟩)] (.ret (.tup [])) [.abs (.fm ((y8 ⟨m,hd,bs,p,some ln,fs,pa,sk,co,out⟩ s)))]:=by
 obtain⟨⟨h9,hS,⟨hfl,hff⟩,hp0⟩,hs⟩:=hneed;simp only at h9 hfl hff hp0;generalize hr:y8 ⟨m,hd,bs,p,some ln,fs,pa,sk,co,out⟩ s=r;unfold y8 at hr;simp only at hr
 refine spH Tryz.func35 (by kernel_rfl) { cfgF with keep:=some [0,1,4,5]} [zdp,zdo,vN,vM,SB,SA] (by kernel_rfl) ?_
 intro I X hI hX
 refine orcL ?_;go_invoke;refine orcS (by kernel_rfl) ?_
 simp only [zJ,Nat.reduceAdd];generalize xM s=y at *;obtain⟨⟨a,b⟩,e⟩:=y;subst hI;simp only [nrmA,nrmB,nrlB,reduceCtorEq,HO.abs.injEq,Gh.fm.injEq]
 (repeat' (first|refine ja ?_ ?_|intro _))<;>first|omega|exact jb|exact jc ‹False›|skip
 all_goals first
  |omega
  |with_reducible assumption
  |exact⟨h9,hS,⟨hfl,hff⟩,hp0⟩
  |(unfold wJ;simp only;omega)
  |(simp only [jm];omega)
  |(subst hr;simp [*,yD];done)
  |(subst hr;rw [if_pos ‹s=[]›];done)
  |(subst hr;rw [if_neg ‹¬ s=[]›,if_pos (by omega)];done)
  |(subst hr;rw [if_neg ‹¬ s=[]›,if_neg (by omega),if_pos ‹¬ e=0›];done)
  |(subst hr;rw [if_neg ‹¬ s=[]›,if_neg (by omega),if_neg (fun h=>h ‹e=0›)];done)
def YN (I:Alg):KU
 |[.v (.one (.ptr 0 0)),.v (.one (.p (.str s)))],[.abs (.fm f)]=>(fun(s:Str)=>(some (.one ⟨I.hid (FmB f∧s.length≤1000000),(.ret (.tup [])),[.abs (.fm (I.hid (y8 f s)))]⟩):Option CT)) s
 |_,_=>none
theorem zbh:zO Tryz.prog 35 (YN alg):=by
 intro args hp r h;unfold YN at h;split at h<;>cases h
 rename_i s f;simp only [CT.Good,zI];intro hneed;obtain⟨m,hd,bs,p,ln,fs,pa,sk,co,out⟩:=f
 cases ln with
 |none=>exact zjC m hd bs p fs pa sk co out s hneed
 |some ln=>exact zjB m hd bs p ln fs pa sk co out s hneed
def zbg:Know Tryz.prog:=⟨35,YN,zbh⟩
def zbf:Know Tryz.prog:=⟨35,fun I=>zT I (YN I),zi zbh⟩
end Go.Proofs.YtjdbannldbgpeaaGreatDoor
namespace Go.Proofs.YtjdbannldbgpeaaGreatDoor
open Go Go.Sep Go.Ab
set_option maxRecDepth 100000
structure FmI (f:Fm) (i:Nat):Prop where
 bs:f.bs=ZQ f.mark
 ml:f.mark.length≤1000
 h0:0≤f.held
 h1:f.held<f.mark.length
 s0:0≤f.skip∧f.skip≤2
 p0:0≤f.parts∧f.parts≤12
 fl:f.fields.length≤16
 ff: ∀ x ∈ f.fields,x.name.length≤i∧x.value.length≤i
 lb: ∀ l,f.ln=some l→l.b.length≤i
 p5:f.pos=5→f.ln≠none
 on:f.out.length≤4 * i
theorem TY {f:Fm} {i:Nat} (h:FmI f i) (c:UInt8):FmI (fmSk f c) i:=by
 have hl:=(YQ f.mark f.held.toNat c).resolve_left fun e=>by have h1:=h.h1;have h0:=h.h0;rw [e,jf] at h1;omega
 exact⟨h.bs,h.ml,Int.natCast_nonneg _,hl,h.s0,h.p0,h.fl,h.ff,h.lb,h.p5,h.on⟩
theorem zd6 {f:Fm} {i j:Nat} (h:FmI f i) (k:i≤j):FmI f j:=by
 obtain⟨a,b,c,d,e,f1,g,h1,h2,h3,h4⟩:=h
 exact⟨a,b,c,d,e,f1,g,fun x m=>by have:=h1 x m;omega,fun l e=>by have:=h2 l e;omega,h3,by omega⟩
theorem qF {f:Fm} {i:Nat} (h:FmI f i) {p co sk pa:Int} {o:List Evt} (ho:o.length≤4 * i) (hp:p=5→f.ln≠none) (hs:0≤sk∧sk≤2) (hpa:0≤pa∧pa≤12):FmI { f with pos:=p,code:=co,out:=o,skip:=sk,parts:=pa} i:=
 ⟨h.bs,h.ml,h.h0,h.h1,hs,hpa,h.fl,h.ff,h.lb,hp,ho⟩
theorem rC {f:Fm} {i:Nat} (h:FmI f i) (ho:f.out.length+1≤4 * i) (c:Int):FmI (yD f c) i:=
 qF h (by simp only [jg,jm];omega) (fun h=>absurd h (by decide)) h.s0 h.p0
theorem zfu {f:Fm} {i:Nat} (h:FmI f i) (ho:f.out.length+1≤4 * i) (c:UInt8):FmI (zZ f c) i:=by
 unfold zZ
 repeat' split
 · exact qF h h.on (fun h=>absurd h (by decide)) h.s0 h.p0
 · exact qF h (by simp only [jg,jm];omega) (fun h=>absurd h (by decide)) h.s0 h.p0
 · exact qF h h.on (fun h=>absurd h (by decide)) h.s0 h.p0
 · exact qF h h.on (fun h=>absurd h (by decide)) h.s0 h.p0
 · exact rC h ho 5
theorem zhI {f:Fm} {i:Nat} (h:FmI f i) (ho:f.out.length+2≤4 * i) (c:UInt8):FmI (yF f c) i:=by
 have hs:=TY h c;have h2:=h.s0;unfold yF
 split
 · refine qF (f:=fmSk f c) hs ?_ h.p5 ?_ h.p0
   · split
     · simp only [jg,jm];omega
     · exact h.on
   · rw [Int.min_def]
     split<;>omega
 · refine qF (f:=fmSk f c) hs ?_ (fun h=>absurd h (by decide)) (by decide) h.p0
   repeat' split
   all_goals first|exact h.on|(simp only [jg,jm,je,jf];omega)
theorem zhL {f:Fm} {i:Nat} (h:FmI f i) (ho:f.out.length+1≤4 * i):FmI (yL f) i:=by
 have h2:=h.p0;unfold yL
 split
 · exact rC h ho _
 · split
   · exact rC h ho _
   · refine TY (TY ?_ _) _
     exact qF h (by simp only [jg,jm];omega) (fun h=>absurd h (by decide)) (by decide) (by omega)
theorem zjD {f:Fm} {i:Nat} (h:FmI f i) (ho:f.out.length+1≤4 * i) {s:Str} (hs:s.length≤i):FmI (y8 f s) i:=by
 unfold y8
 split
 · exact zhL h ho
 · split
   · exact rC h ho _
   · split
     · exact rC h ho _
     · rename_i h16 _
       have hp:=zgq s;refine⟨h.bs,h.ml,h.h0,h.h1,h.s0,h.p0,?_,fun x hx=> ?_,h.lb,h.p5,h.on⟩
       · have:=h.fl
         simp only [jg,jm];omega
       · rcases List.mem_append.1 hx with h5|h5
         · exact h.ff x h5
         · rw [List.mem_singleton.1 h5];omega
theorem zjL {f:Fm} {i:Nat} (h:FmI f i) (c:UInt8):FmI (fmF f c) (i+1):=by
 have hm:=zd6 h (show i≤i+1 by omega)
 have ho:f.out.length+2≤4 * (i+1):=by have:=h.on;omega
 unfold fmF
 split
 · exact zhI hm ho c
 · split
   · exact zfu hm (by omega) c
   · split
     · split
       · exact rC hm (by omega) 2
       · exact⟨hm.bs,hm.ml,hm.h0,hm.h1,hm.s0,hm.p0,by simp,(fun x hx=>by cases hx),(fun l e=>by cases e;simp [ln0]),(fun _ e=>by cases e),hm.on⟩
     · split
       · have hb:=zmj (lnOf f) c
         have hl:=zg6 (lnOf f) c
         have hn:(lnOf f).b.length≤i:=by
          unfold lnOf
          cases e:f.ln with
          |none=>simp [ln0]
          |some l=>exact h.lb l e
         have hk:FmI { f with ln:=some (lnF (lnOf f) c).1} (i+1):=⟨hm.bs,hm.ml,hm.h0,hm.h1,hm.s0,hm.p0,hm.fl,hm.ff,(fun l e=>by cases e;omega),(fun _ e=>by cases e),hm.on⟩
         split
         · exact rC hk (by simp only;omega) _
         · split
           · exact zjD hk (by simp only;omega) (by omega)
           · exact hk
       · exact hm
theorem zjn (k:Int) (hneed:False):Spc Tryz.prog 34 [.v (.one (.p (.val (.pointer none)))),.v (.one (.p (.int .u8 k)))] [] (.ret (.tup [.one (.p (.str ([]))),.one (.p (.bool false)),.one (.p (.int .i64 0))])) []:=hneed.elim
def Zb (I:Alg):KU
 |[.v (.one (.p (.val (.pointer none)))),.v (.one (.p (.int .u8 k)))],[]=>some (.one ⟨I.hid (False),(.ret (.tup [.one (.p (.str (I.hid ([])))),.one (.p (.bool false)),.one (.p (.int .i64 0))])),[]⟩)
 |_,_=>none
theorem Tt:zO Tryz.prog 34 (Zb alg):=by
 intro args hp r h;unfold Zb at h
 split at h
 · cases h;exact fun hn=>zjn _ hn
 · cases h
def Tq:Know Tryz.prog:=⟨34,Zb,Tt⟩
def Tn:Know Tryz.prog:=⟨34,fun I=>zT I (Zb I),zi Tt⟩
def fmN (f:Fm):Prop:=∃ i:Nat,i≤1000000∧FmI f i
theorem zll (m:Str) (hd:Int) (bs:List Int) (p:Int) (fs:List Fld) (pa sk co:Int) (out:List Evt) (k:Int) (hneed:fmN ⟨m,hd,bs,p,none,fs,pa,sk,co,out⟩∧0≤k∧k≤255):Spc Tryz.prog 20 [.v (.one (.ptr 0 0)),.v (.one (.p (.int .u8 k)))] [.abs (.fm ⟨m,hd,bs,p,none,fs,pa,sk,co,out⟩)] (.ret (.tup [])) [.abs (.fm ((fmF ⟨m,hd,bs,p,none,fs,pa,sk,co,out⟩ (UInt8.ofNat k.toNat))))]:=by
 obtain⟨⟨i,hi,hI0⟩,hk0,hk1⟩:=hneed;obtain⟨g1,g2,g3,g4,g5,g6,g7,g8,g9,g10,g11⟩:=hI0;simp only at g1 g2 g3 g4 g5 g6 g7 g8 g9 g10 g11
 have g2:=Nat.le_trans g2 (show 1000≤1000000 by decide)
 have hfd:FdOk fs:=⟨by omega,fun x hx=>by have:=g8 x hx;omega⟩
 have h10:=u8k hk0 hk1 10 (by decide)
 have h10:(UInt8.ofNat k.toNat=10)=(k=10):=h10;generalize hr:fmF ⟨m,hd,bs,p,none,fs,pa,sk,co,out⟩ (UInt8.ofNat k.toNat)=r;unfold fmF lnOf at hr;simp only [h10] at hr;have hll:=trivial
 refine spH Tryz.func20 (by kernel_rfl) { cfgF with keep:=some [0,1,4,5,6,10,11,17]} [zdP,zdO,zaE,zaD,Tq,Tn,vN,vM,Ue,Ud,Sr,Sm,zbg,zbf] (by kernel_rfl) ?_
 intro I X hI hX
 refine orcL ?_;go_invoke;refine orcS (by kernel_rfl) ?_
 simp only [zJ,Nat.reduceAdd];subst hI;simp only [nrmA,nrmB,nrlB,reduceCtorEq,HO.abs.injEq,Gh.fm.injEq]
 (repeat' (first|refine ja ?_ ?_|intro _))<;>first|omega|exact jb|exact jc ‹False›|skip
 all_goals first
  |omega
  |with_reducible assumption
  |(refine⟨by simp only;omega,⟨g1,g2,g3,.inr g4,g5⟩,?_⟩;done)
  |exact⟨g1,g2,g3,.inr g4,g5⟩
  |exact⟨by simp only;omega,⟨g1,g2,g3,.inr g4,g5⟩,hfd,g6⟩
  |exact Nat.le_trans hll (by omega)
  |(unfold wJ;simp only;omega)
  |(unfold fm9;simp only;omega)
  |(exact absurd rfl (g10 ‹_›))
  |(subst hr;simp [*,ln0];done)
theorem zlk (m:Str) (hd:Int) (bs:List Int) (p:Int) (ln:Ln) (fs:List Fld) (pa sk co:Int) (out:List Evt) (k:Int) (hneed:fmN ⟨m,hd,bs,p,some ln,fs,pa,sk,co,out⟩∧0≤k∧k≤255):Spc Tryz.prog 20 [.v (.one (.ptr 0 0)),.v (.one (.p (.int .u8 k)))] [.abs (.fm ⟨m,hd,bs,p,some ln,fs,pa,sk,co,out⟩)] (.ret (.tup [])) [.abs (.fm ((fmF ⟨m,hd,bs,p,some ln,fs,pa,sk,co,out⟩ (UInt8.ofNat k.toNat))))]:=by
 obtain⟨⟨i,hi,hI0⟩,hk0,hk1⟩:=hneed;obtain⟨g1,g2,g3,g4,g5,g6,g7,g8,g9,g10,g11⟩:=hI0;simp only at g1 g2 g3 g4 g5 g6 g7 g8 g9 g10 g11
 have g2:=Nat.le_trans g2 (show 1000≤1000000 by decide)
 have hfd:FdOk fs:=⟨by omega,fun x hx=>by have:=g8 x hx;omega⟩
 have h10:=u8k hk0 hk1 10 (by decide)
 have h10:(UInt8.ofNat k.toNat=10)=(k=10):=h10;generalize hr:fmF ⟨m,hd,bs,p,some ln,fs,pa,sk,co,out⟩ (UInt8.ofNat k.toNat)=r;unfold fmF lnOf at hr;simp only [h10] at hr;have hll:=zg6 ln (UInt8.ofNat k.toNat);have hlb:=g9 ln rfl
 refine spH Tryz.func20 (by kernel_rfl) { cfgF with keep:=some [0,1,4,5,6,10,11,17]} [zdP,zdO,zaE,zaD,Tq,Tn,vN,vM,Ue,Ud,Sr,Sm,zbg,zbf] (by kernel_rfl) ?_
 intro I X hI hX
 refine orcL ?_;go_invoke;refine orcS (by kernel_rfl) ?_
 simp only [zJ,Nat.reduceAdd];subst hI;simp only [nrmA,nrmB,nrlB,reduceCtorEq,HO.abs.injEq,Gh.fm.injEq]
 (repeat' (first|refine ja ?_ ?_|intro _))<;>first|omega|exact jb|exact jc ‹False›|skip
 all_goals first
  |omega
  |with_reducible assumption
  |(refine⟨by simp only;omega,⟨g1,g2,g3,.inr g4,g5⟩,?_⟩;done)
  |exact⟨g1,g2,g3,.inr g4,g5⟩
  |exact⟨by simp only;omega,⟨g1,g2,g3,.inr g4,g5⟩,hfd,g6⟩
  |exact Nat.le_trans hll (by omega)
  |(unfold wJ;simp only;omega)
  |(unfold fm9;simp only;omega)
  |(exact absurd rfl (g10 ‹_›))
  |(subst hr;simp [*,ln0];done)
def WS (I:Alg):KU
 |[.v (.one (.ptr 0 0)),.v (.one (.p (.int .u8 k)))],[.abs (.fm f)]=>some (.one ⟨I.hid (fmN f∧0≤k∧k≤255),(.ret (.tup [])),[.abs (.fm (I.hid (fmF f (UInt8.ofNat k.toNat))))]⟩)
 |_,_=>none
theorem zd8:zO Tryz.prog 20 (WS alg):=by
 intro args hp r h;unfold WS at h;split at h<;>cases h
 rename_i k f;simp only [CT.Good,zI];intro hneed;obtain⟨m,hd,bs,p,ln,fs,pa,sk,co,out⟩:=f
 cases ln with
 |none=>exact zll m hd bs p fs pa sk co out k hneed
 |some ln=>exact zlk m hd bs p ln fs pa sk co out k hneed
def WR:Know Tryz.prog:=⟨20,WS,zd8⟩
def WQ:Know Tryz.prog:=⟨20,fun I=>zT I (WS I),zi zd8⟩
end Go.Proofs.YtjdbannldbgpeaaGreatDoor
namespace Go.Proofs.YtjdbannldbgpeaaGreatDoor
open Go Go.Sep Go.Ab
set_option maxRecDepth 100000
def zX (l:List Evt):Nat:=(l.map fun e=>e.bytes.length).sum
theorem xg (a b:List Evt):zX (a++b)=zX a+zX b:=by simp [zX]
theorem sN (e:Evt):zX [e]=e.bytes.length:=by simp [zX]
theorem zg8 (o:List Evt) (e:Evt):zX (wI o e)≤zX o+e.bytes.length:=by
 rcases List.eq_nil_or_concat o with rfl|⟨z,x,rfl⟩
 · rw [uo,sN];omega
 · rw [List.concat_eq_append,yj]
   split
   · rw [xg,xg,sN,sN];simp only [evB,jg];omega
   · rw [xg _ [e],sN e];exact jK _
theorem vZ (l:List Evt) (e:Evt):zV (l++[e])=wI (zV l) e:=by simp [zV,List.foldl_append]
theorem VO (l:List Evt):zX (zV l)≤zX l:=by
 suffices ∀ l o:List Evt,zX (l.foldl wI o)≤zX o+zX l by have:=this l [];simpa [zV,zX] using this
 intro l
 induction l with
 |nil=>intro o;simp [zX]
 | cons e r ih=>
   intro o;have h1:=ih (wI o e);have h2:=zg8 o e
   have h3:zX (e::r)=e.bytes.length+zX r:=by simp [zX]
   rw [List.foldl_cons];omega
theorem zg9 (o:List Evt) (e:Evt):(wI o e).length≤o.length+1:=by
 rcases List.eq_nil_or_concat o with rfl|⟨z,x,rfl⟩
 · simp [uo]
 · rw [List.concat_eq_append,yj]
   split<;>simp
theorem zfw (l:List Evt) (i:Nat):zX (l.take i)≤zX l:=by
 have:=xg (l.take i) (l.drop i);rw [List.take_append_drop] at this;omega
theorem YV {l:List Evt} {e:Evt} (h:e ∈ l):e.bytes.length≤zX l:=by
 obtain⟨a,b,rfl⟩:=List.append_of_mem h;have:=xg a (e::b)
 have h3:zX (e::b)=e.bytes.length+zX b:=by simp [zX]
 omega
theorem VP (l:List Evt):(zV l).length≤l.length:=by
 suffices ∀ l o:List Evt,(l.foldl wI o).length≤o.length+l.length by have:=this l [];simpa [zV] using this
 intro l
 induction l with
 |nil=>intro o;simp
 | cons e r ih=>
   intro o;have h1:=ih (wI o e);have h2:=zg9 o e;rw [List.foldl_cons,je];omega
def Yj (I:Alg):KU
 |[.v (.one (.row 0))],[.row .evt 45 l]=>(fun(l:List Evt)=>(some (.one ⟨I.hid (zX l≤1000000∧l.length≤10000000),(.ret (.v (.one (.row 1)))),[.row .evt 45 l,.row .evt 45 (I.hid (zV l))]⟩):Option CT)) l
 |_,_=>none
theorem zal:zO Tryz.prog 21 (Yj alg):=by
 intro args hp r h;unfold Yj at h;split at h<;>cases h
 rename_i l
 revert l;intro(l:List Evt)
 simp only [CT.Good,zI];intro hneed;obtain⟨hn1,hn2⟩:=hneed
 refine spH Tryz.func21 (by kernel_rfl) { nr:=[3],keep:=some [0,2,3,5,6,7,8,9,10]} [] (by kernel_rfl) ?_
 intro I X hI hX
 refine orcL ?_;go_invoke;refine orcS (by kernel_rfl) ?_
 simp only [zJ,Nat.reduceAdd]
 refine lpH hI [] hX [0,3,8,9,10] (fun(g:Nat × List Evt)=>match g with|(i,o)=>i≤l.length∧o=zV (l.take i)) (fun(g:Nat × List Evt)=>match g with|(i,o)=>⟨[(0,.v (.one (.row 0))),(3,.v (.one (.row 1))),(8,.v (.one (.row 0))),(9,.v (.one (.p (.int .i64 ((I.len (α:=Evt) l)))))),(10,.v (.one (.p (.int .i64 i))))],[.row .evt 45 l,.row .evt 45 o],52,none⟩) (fun(g:Nat × List Evt)=>match g with|(i,o)=>l.length - i) (0,[]) (by kernel_rfl) (by kernel_rfl) ?_ ?_
 · exact⟨jL _,rfl⟩
 rintro⟨i,o⟩ ⟨h1,h2⟩ A hA;simp only at hA h1 h2
 refine orcL ?_;go_invoke;refine orcS (by kernel_rfl) ?_
 simp only [zJ,Nat.reduceAdd];subst hI;simp only [nrmA,nrmB,nrlB,reduceCtorEq];have hl1:=VP (l.take i)
 have hl2:(l.take i).length≤i:=by rw [jq];omega
 have hl3:=VO (l.take i)
 have hl4: ∀ x ∈ zV (l.take i),x.bytes.length≤1000000:=fun x h=>by
  have a:=YV h;have b:=zfw l i;omega
 have hw: ¬ i<l.length→o=zV l:=fun h=>by rw [h2,jl (by omega)]
 have hy:i<l.length→zV (l.take (i+1))=wI o (l.getD i ⟨0,⟨[],[],0,[],0⟩,[],⟨[],[],[],[]⟩,0⟩):=fun h=>by rw [jA h,vZ,h2];simp [h]
 have hl5:i<l.length→(l.getD i ⟨0,⟨[],[],0,[],0⟩,[],⟨[],[],[],[]⟩,0⟩).bytes.length≤1000000:=fun h=>by
  have:l.getD i ⟨0,⟨[],[],0,[],0⟩,[],⟨[],[],[],[]⟩,0⟩ ∈ l:=by simp [h]
  have:=YV this;omega
 rw [← h2] at hl1 hl4
 refine⟨fun c=> ?_,fun c=>hw (by omega)⟩
 have hlt:i<l.length:=by omega
 have hy:=hy hlt;have hl5:=hl5 hlt;generalize l.getD i ⟨0,⟨[],[],0,[],0⟩,[],⟨[],[],[],[]⟩,0⟩=e at *
 have hgo: ∀ r:List Evt,r=wI o e→(fun p:Nat × List Evt=>p.1≤l.length∧p.2=zV (l.take p.1)) (i+1,r):=fun r h=>⟨by simp only;omega,by simp only;rw [hy,h]⟩
 rcases List.eq_nil_or_concat o with he|⟨z,x,he⟩
 · subst he
   rw [uo] at hgo;simp only [je,jf]
   (repeat' (first|refine ja ?_ ?_|intro _))<;>first|omega|exact jb|exact jc ‹False›|skip
   all_goals first
    |omega
    |exact hA (i+1,_) (hgo _ rfl) (by simp only;omega)
 · rw [List.concat_eq_append] at he
   subst he;have hx:=hl4 x (List.mem_append_right _ (List.mem_singleton.2 rfl))
   have hz:(((z++[x]).length:Int) - 1).toNat=z.length:=by rw [jg,jm];omega
   have hg: ∀ d,(z++[x]).getD z.length d=x:=fun d=>by simp
   have hs: ∀ d,(z++[x]).set z.length d=z++[d]:=fun d=>by simp
   rw [yj] at hgo;rw [jg,jm] at hl1;simp only [hz,hg,hs];simp only [jg,je,jf];clear hz hg hs
   (repeat' (first|refine ja ?_ ?_|intro _))<;>first|omega|exact jb|exact jc ‹False›|skip
   all_goals first
    |omega
    |(rw [if_pos ⟨‹e.kind=2›,‹x.kind=2›⟩] at hgo;exact hA (i+1,_) (hgo _ rfl) (by simp only;omega))
    |(rw [if_neg (fun h=>‹¬ e.kind=2› h.1)] at hgo;exact hA (i+1,_) (hgo _ rfl) (by simp only;omega))
    |(rw [if_neg (fun h=>‹¬ x.kind=2› h.2)] at hgo;exact hA (i+1,_) (hgo _ rfl) (by simp only;omega))
def Yi:Know Tryz.prog:=⟨21,Yj,zal⟩
def Yh:Know Tryz.prog:=⟨21,fun I=>zT I (Yj I),zi zal⟩
end Go.Proofs.YtjdbannldbgpeaaGreatDoor
namespace Go.Proofs.YtjdbannldbgpeaaGreatDoor
open Go Go.Sep Go.Ab
set_option maxRecDepth 100000
theorem zbt {m:Str} {n:Nat} (h:m=[]∨n<m.length) (c:UInt8):(x9 m n c).1.length+(x9 m n c).2.1≤n+1:=by
 unfold x9
 by_cases h0:m=[]
 · rw [if_pos h0];simp only [jm];omega
 · rw [if_neg h0]
   have hn:n<m.length:=h.resolve_left h0
   have hf:=(P.Qo m c P.take_len n n (jK _) (by omega)).le
   unfold P.feed;simp only
   repeat' split
   all_goals simp only [jg,jm,jq]
   all_goals omega
theorem zki (f:Fm) {i:Nat} (h:FmI f i) (c:UInt8):(fmSk f c).held.toNat≤f.held.toNat+1:=by
 have:=zbt (m:=f.mark) (n:=f.held.toNat) (.inr (by have:=h.h0;have:=h.h1;omega)) c
 show(((x9 f.mark f.held.toNat c).2.1:Nat):Int).toNat≤_
 rw [jI];omega
theorem uy (o:List Evt) (e:Evt) (h:e.bytes=[]):zX (o++[e])=zX o:=by
 rw [xg,sN,h];rfl
theorem zct {f:Fm} {i:Nat} (h:FmI f i):zX (yL f).out+(yL f).held.toNat≤zX f.out+f.held.toNat+2:=by
 have h2:=h.p0;unfold yL
 split
 · show zX (f.out++[evF _])+_≤_
   rw [uy _ _ rfl];simp only [yD];omega
 · split
   · show zX (f.out++[evF _])+_≤_
     rw [uy _ _ rfl];simp only [yD];omega
   · have hI:FmI { f with parts:=f.parts+1,pos:=6,out:=[],skip:=2} i:=⟨h.bs,h.ml,h.h0,h.h1,(show(0:Int)≤2∧(2:Int)≤2 by decide),by simp only;omega,h.fl,h.ff,h.lb,(fun e=>absurd (show(6:Int)=5 from e) (by decide)),jL _⟩
     have a:=zki _ hI 13;have b:=zki _ (TY hI 13) 10
     show zX (f.out++[evP _])+(fmSk (fmSk { f with parts:=f.parts+1,pos:=6,out:=[],skip:=2} 13) 10).held.toNat≤_
     rw [uy _ _ rfl];simp only at a;omega
theorem zfp {f:Fm} {i:Nat} (h:FmI f i) (s:Str):zX (y8 f s).out+(y8 f s).held.toNat≤zX f.out+f.held.toNat+2:=by
 unfold y8
 split
 · exact zct h
 · split
   · show zX (f.out++[evF _])+_≤_
     rw [uy _ _ rfl];simp only [yD];omega
   · split
     · show zX (f.out++[evF _])+_≤_
       rw [uy _ _ rfl];simp only [yD];omega
     · simp only;omega
theorem zcp {f:Fm} {i:Nat} (h:FmI f i) (c:UInt8):zX (fmF f c).out+(fmF f c).held.toNat≤zX f.out+f.held.toNat+2:=by
 have hfail: ∀ (f:Fm) (c:Int),zX (yD f c).out=zX f.out∧(yD f c).held=f.held:=fun f c=>⟨uy _ _ rfl,rfl⟩;unfold fmF
 split
 · have hp:=zbt (m:=f.mark) (n:=f.held.toNat) (.inr (by have:=h.h0;have:=h.h1;omega)) c
   have hd:(yH f c).length≤(x9 f.mark f.held.toNat c).1.length:=by unfold yH;rw [jB];omega
   have e0:(fmSk f c).held.toNat=(x9 f.mark f.held.toNat c).2.1:=jI _;unfold yF
   split
   · show zX (if f.pos=6∧yH f c≠[] then f.out++[evB (yH f c)] else f.out)+(fmSk f c).held.toNat≤_
     rw [e0]
     split
     · rw [xg,sN];simp only [evB];omega
     · omega
   · show zX (if f.pos=6 then(if yH f c≠[] then f.out++[evB (yH f c),evO] else f.out++[evO]) else f.out)+(fmSk f c).held.toNat≤_
     rw [e0]
     have e1:zX [evB (yH f c),evO]=(yH f c).length:=by simp [zX,evB,evO]
     have e2:zX [evO]=0:=rfl
     split
     · split
       · rw [xg,e1];omega
       · rw [xg,e2];omega
     · omega
 · split
   · unfold zZ
     repeat' split
     all_goals first
      |(simp only;omega)
      |(rw [(hfail _ _).1,(hfail _ _).2];omega)
      |(show zX (f.out++[evE])+_≤_;rw [uy _ _ rfl];simp only;omega)
   · split
     · split
       · rw [(hfail _ _).1,(hfail _ _).2];omega
       · simp only;omega
     · split
       · split
         · rw [(hfail _ _).1,(hfail _ _).2];simp only;omega
         · split
           · have hn:(lnOf f).b.length≤i:=by
              unfold lnOf
              cases e:f.ln with
              |none=>simp [ln0]
              |some l=>exact h.lb l e
             have hb:=zmj (lnOf f) c
             have hm:=zd6 h (show i≤i+1 by omega)
             exact zfp (i:=i+1) (f:= { f with ln:=some (lnF (lnOf f) c).1}) ⟨hm.bs,hm.ml,hm.h0,hm.h1,hm.s0,hm.p0,hm.fl,hm.ff,(fun l e=>by cases e;omega),(fun _ e=>by cases e),hm.on⟩ _
           · simp only;omega
       · omega
theorem zhw (f:Fm) (b:Str) {i:Nat} (h:i<b.length):yS f (b.take (i+1))=fmF (yS f (b.take i)) (b.getD i 0):=by
 rw [show b.getD i 0=b[i] by simp [h],jA h]
 unfold yS;rw [List.foldl_append];rfl
theorem zcn: ∀ (b:Str) (f:Fm) (i:Nat),FmI f i→FmI (yS f b) (i+b.length)
 |[],f,i,h=>h
 | c::r,f,i,h=>by
   have:=zcn r (fmF f c) (i+1) (zjL h c)
   rw [je,show i+(r.length+1)=i+1+r.length by omega]
   exact this
def fmN0 (f:Fm) (b:Str):Prop:=∃ n,FmI { f with out:=[]} n∧n+b.length≤400000
theorem zjG (m:Str) (hd:Int) (bs:List Int) (p:Int) (fs:List Fld) (pa sk co:Int) (out:List Evt) (b:Str) (hneed:fmN0 ⟨m,hd,bs,p,none,fs,pa,sk,co,out⟩ b):Spc Tryz.prog 11 [.v (.one (.ptr 0 0)),.v (.one (.p (.list .byte b)))] [.abs (.fm ⟨m,hd,bs,p,none,fs,pa,sk,co,out⟩)] (.ret (.v (.one (.row 1)))) [.abs (.fm ((zQ ⟨m,hd,bs,p,none,fs,pa,sk,co,out⟩ b))),.row .evt 45 ((zV (zQ ⟨m,hd,bs,p,none,fs,pa,sk,co,out⟩ b).out))]:=by
 obtain⟨n,hI0,hnb⟩:=hneed;have hml:=hI0.ml;have hh1:=hI0.h1;have hh0:=hI0.h0;simp only at hml hh1 hh0
 have hh:hd.toNat≤1000:=by
  omega
 refine spH Tryz.func11 (by kernel_rfl) { cfgF with keep:=some [0,1,4,6,10,11,12]} [WR,WQ,Yi,Yh] (by kernel_rfl) ?_
 intro I X hI hX
 refine orcL ?_;go_invoke;refine orcS (by kernel_rfl) ?_
 simp only [zJ,Nat.reduceAdd];unfold zQ;simp only at hI0 ⊢
 refine lpH hI [WR,WQ,Yi,Yh] hX [0,10,11,12] (fun(g:Nat × Fm)=>match g with|(i,r)=>i≤b.length∧r=yS (⟨m,hd,bs,p,none,fs,pa,sk,co,[]⟩:Fm) (b.take i)∧FmI r (n+i)∧zX r.out+r.held.toNat≤hd.toNat+2 * i) (fun(g:Nat × Fm)=>match g with|(i,r)=>⟨[(0,.v (.one (.ptr 0 0))),(10,.v (.one (.p (.list .byte b)))),(11,.v (.one (.p (.int .i64 ((I.len (α:=UInt8) b)))))),(12,.v (.one (.p (.int .i64 i))))],[.abs (.fm r)],25,none⟩) (fun(g:Nat × Fm)=>match g with|(i,r)=>b.length - i) (0,(⟨m,hd,bs,p,none,fs,pa,sk,co,[]⟩:Fm)) (by kernel_rfl) (by kernel_rfl) ?_ ?_
 · exact⟨jL _,rfl,hI0,by simp [zX]⟩
 rintro⟨i,⟨m2,hd2,bs2,p2,ln2,fs2,pa2,sk2,co2,out2⟩⟩ ⟨h1,h2,h3,h4⟩ A hA;simp only at hA h1 h2 h3 h4
 have hrn:i<b.length→fmN _:=fun h=>⟨n+i,by omega,h3⟩
 have hgo:i<b.length→_:=fun h=>hA (i+1,fmF ⟨m2,hd2,bs2,p2,ln2,fs2,pa2,sk2,co2,out2⟩ (b.getD i 0)) ⟨by simp only;omega,by simp only;rw [zhw _ _ h,← h2],by simp only;exact zjL h3 _,by simp only;have:=zcp h3 (b.getD i 0);simp only at this;omega⟩ (by simp only;omega)
 have hend: ¬ i<b.length→_:=fun h=>h2.trans (by rw [jl (by omega)])
 rcases ln2 with _|l2
 · have h0:=h1
   refine orcL ?_;go_invoke;refine orcS (by kernel_rfl) ?_
   simp only [zJ,Nat.reduceAdd];subst hI;simp only [nrmA,nrmB,nrlB,reduceCtorEq,HO.abs.injEq,Gh.fm.injEq]
   by_cases hi:i<b.length
   · have hg:=hgo hi
     have hn:=hrn hi
     (repeat' (first|refine ja ?_ ?_|intro _))<;>first|omega|exact jb|exact jc ‹False›|skip
     all_goals first|omega|exact hg|exact hn|contradiction|(have:=(b.getD i 0).toNat_lt;omega)|trace_state
   · have hg:=hend hi
     rw [← hg];have hon:=h3.on;simp only at hon
     (repeat' (first|refine ja ?_ ?_|intro _))<;>first|omega|exact jb|exact jc ‹False›|skip
     all_goals first|omega|rfl|contradiction|exact⟨by omega,by omega⟩|trace_state
 · have h0:=h1
   refine orcL ?_;go_invoke;refine orcS (by kernel_rfl) ?_
   simp only [zJ,Nat.reduceAdd];subst hI;simp only [nrmA,nrmB,nrlB,reduceCtorEq,HO.abs.injEq,Gh.fm.injEq]
   by_cases hi:i<b.length
   · have hg:=hgo hi
     have hn:=hrn hi
     (repeat' (first|refine ja ?_ ?_|intro _))<;>first|omega|exact jb|exact jc ‹False›|skip
     all_goals first|omega|exact hg|exact hn|contradiction|(have:=(b.getD i 0).toNat_lt;omega)|trace_state
   · have hg:=hend hi
     rw [← hg];have hon:=h3.on;simp only at hon
     (repeat' (first|refine ja ?_ ?_|intro _))<;>first|omega|exact jb|exact jc ‹False›|skip
     all_goals first|omega|rfl|contradiction|exact⟨by omega,by omega⟩|trace_state
theorem zjF (m:Str) (hd:Int) (bs:List Int) (p:Int) (ln:Ln) (fs:List Fld) (pa sk co:Int) (out:List Evt) (b:Str) (hneed:fmN0 ⟨m,hd,bs,p,some ln,fs,pa,sk,co,out⟩ b):Spc Tryz.prog 11 [.v (.one (.ptr 0 0)),.v (.one (.p (.list .byte b)))] [.abs (.fm ⟨m,hd,bs,p,some ln,fs,pa,sk,co,out⟩)] (.ret (.v (.one (.row 1)))) [.abs (.fm ((zQ ⟨m,hd,bs,p,some ln,fs,pa,sk,co,out⟩ b))),.row .evt 45 ((zV (zQ ⟨m,hd,bs,p,some ln,fs,pa,sk,co,out⟩ b).out))]:=by
 obtain⟨n,hI0,hnb⟩:=hneed;have hml:=hI0.ml;have hh1:=hI0.h1;have hh0:=hI0.h0;simp only at hml hh1 hh0
 have hh:hd.toNat≤1000:=by
  omega
 refine spH Tryz.func11 (by kernel_rfl) { cfgF with keep:=some [0,1,4,6,10,11,12]} [WR,WQ,Yi,Yh] (by kernel_rfl) ?_
 intro I X hI hX
 refine orcL ?_;go_invoke;refine orcS (by kernel_rfl) ?_
 simp only [zJ,Nat.reduceAdd];unfold zQ;simp only at hI0 ⊢
 refine lpH hI [WR,WQ,Yi,Yh] hX [0,10,11,12] (fun(g:Nat × Fm)=>match g with|(i,r)=>i≤b.length∧r=yS (⟨m,hd,bs,p,some ln,fs,pa,sk,co,[]⟩:Fm) (b.take i)∧FmI r (n+i)∧zX r.out+r.held.toNat≤hd.toNat+2 * i) (fun(g:Nat × Fm)=>match g with|(i,r)=>⟨[(0,.v (.one (.ptr 0 0))),(10,.v (.one (.p (.list .byte b)))),(11,.v (.one (.p (.int .i64 ((I.len (α:=UInt8) b)))))),(12,.v (.one (.p (.int .i64 i))))],[.abs (.fm r)],25,none⟩) (fun(g:Nat × Fm)=>match g with|(i,r)=>b.length - i) (0,(⟨m,hd,bs,p,some ln,fs,pa,sk,co,[]⟩:Fm)) (by kernel_rfl) (by kernel_rfl) ?_ ?_
 · exact⟨jL _,rfl,hI0,by simp [zX]⟩
 rintro⟨i,⟨m2,hd2,bs2,p2,ln2,fs2,pa2,sk2,co2,out2⟩⟩ ⟨h1,h2,h3,h4⟩ A hA;simp only at hA h1 h2 h3 h4
 have hrn:i<b.length→fmN _:=fun h=>⟨n+i,by omega,h3⟩
 have hgo:i<b.length→_:=fun h=>hA (i+1,fmF ⟨m2,hd2,bs2,p2,ln2,fs2,pa2,sk2,co2,out2⟩ (b.getD i 0)) ⟨by simp only;omega,by simp only;rw [zhw _ _ h,← h2],by simp only;exact zjL h3 _,by simp only;have:=zcp h3 (b.getD i 0);simp only at this;omega⟩ (by simp only;omega)
 have hend: ¬ i<b.length→_:=fun h=>h2.trans (by rw [jl (by omega)])
 rcases ln2 with _|l2
 · have h0:=h1
   refine orcL ?_;go_invoke;refine orcS (by kernel_rfl) ?_
   simp only [zJ,Nat.reduceAdd];subst hI;simp only [nrmA,nrmB,nrlB,reduceCtorEq,HO.abs.injEq,Gh.fm.injEq]
   by_cases hi:i<b.length
   · have hg:=hgo hi
     have hn:=hrn hi
     (repeat' (first|refine ja ?_ ?_|intro _))<;>first|omega|exact jb|exact jc ‹False›|skip
     all_goals first|omega|exact hg|exact hn|contradiction|(have:=(b.getD i 0).toNat_lt;omega)|trace_state
   · have hg:=hend hi
     rw [← hg];have hon:=h3.on;simp only at hon
     (repeat' (first|refine ja ?_ ?_|intro _))<;>first|omega|exact jb|exact jc ‹False›|skip
     all_goals first|omega|rfl|contradiction|exact⟨by omega,by omega⟩|trace_state
 · have h0:=h1
   refine orcL ?_;go_invoke;refine orcS (by kernel_rfl) ?_
   simp only [zJ,Nat.reduceAdd];subst hI;simp only [nrmA,nrmB,nrlB,reduceCtorEq,HO.abs.injEq,Gh.fm.injEq]
   by_cases hi:i<b.length
   · have hg:=hgo hi
     have hn:=hrn hi
     (repeat' (first|refine ja ?_ ?_|intro _))<;>first|omega|exact jb|exact jc ‹False›|skip
     all_goals first|omega|exact hg|exact hn|contradiction|(have:=(b.getD i 0).toNat_lt;omega)|trace_state
   · have hg:=hend hi
     rw [← hg];have hon:=h3.on;simp only at hon
     (repeat' (first|refine ja ?_ ?_|intro _))<;>first|omega|exact jb|exact jc ‹False›|skip
     all_goals first|omega|rfl|contradiction|exact⟨by omega,by omega⟩|trace_state
def YO (I:Alg):KU
 |[.v (.one (.ptr 0 0)),.v (.one (.p (.list .byte b)))],[.abs (.fm f)]=>(fun(b:Str)=>(some (.one ⟨I.hid (fmN0 f b),(.ret (.v (.one (.row 1)))),[.abs (.fm (I.hid (zQ f b))),.row .evt 45 (I.hid (zV (zQ f b).out))]⟩):Option CT)) b
 |_,_=>none
theorem zbi:zO Tryz.prog 11 (YO alg):=by
 intro args hp r h;unfold YO at h;split at h<;>cases h
 rename_i b f;simp only [CT.Good,zI];intro hneed;obtain⟨m,hd,bs,p,ln,fs,pa,sk,co,out⟩:=f
 cases ln with
 |none=>exact zjG m hd bs p fs pa sk co out b hneed
 |some ln=>exact zjF m hd bs p ln fs pa sk co out b hneed
def sJ:Know Tryz.prog:=⟨11,YO,zbi⟩
def sH:Know Tryz.prog:=⟨11,fun I=>zT I (YO I),zi zbi⟩
theorem zhG (m:Str) (hd:Int) (bs:List Int) (p:Int) (fs:List Fld) (pa sk co:Int) (out:List Evt):Spc Tryz.prog 12 [.v (.one (.ptr 0 0))] [.abs (.fm ⟨m,hd,bs,p,none,fs,pa,sk,co,out⟩)] (.ret (.v (.one (.p (.int .i64 ((y9 ⟨m,hd,bs,p,none,fs,pa,sk,co,out⟩))))))) [.abs (.fm ⟨m,hd,bs,p,none,fs,pa,sk,co,out⟩)]:=by
 generalize hr:y9 ⟨m,hd,bs,p,none,fs,pa,sk,co,out⟩=r;unfold y9 at hr;simp only at hr
 refine spH Tryz.func12 (by kernel_rfl) { cfgF with keep:=some [0,2,6]} [] (by kernel_rfl) ?_
 intro I X hI hX
 refine orcL ?_;go_invoke;refine orcS (by kernel_rfl) ?_
 simp only [zJ,Nat.reduceAdd];subst hI;simp only [nrmA,nrmB,nrlB,reduceCtorEq,HO.abs.injEq,Gh.fm.injEq]
 (repeat' (first|refine ja ?_ ?_|intro _))<;>first|omega|exact jb|exact jc ‹False›|skip
 all_goals first|omega|rfl|(subst hr;simp [*];done)|trace_state
theorem zhF (m:Str) (hd:Int) (bs:List Int) (p:Int) (ln:Ln) (fs:List Fld) (pa sk co:Int) (out:List Evt):Spc Tryz.prog 12 [.v (.one (.ptr 0 0))] [.abs (.fm ⟨m,hd,bs,p,some ln,fs,pa,sk,co,out⟩)] (.ret (.v (.one (.p (.int .i64 ((y9 ⟨m,hd,bs,p,some ln,fs,pa,sk,co,out⟩))))))) [.abs (.fm ⟨m,hd,bs,p,some ln,fs,pa,sk,co,out⟩)]:=by
 generalize hr:y9 ⟨m,hd,bs,p,some ln,fs,pa,sk,co,out⟩=r;unfold y9 at hr;simp only at hr
 refine spH Tryz.func12 (by kernel_rfl) { cfgF with keep:=some [0,2,6]} [] (by kernel_rfl) ?_
 intro I X hI hX
 refine orcL ?_;go_invoke;refine orcS (by kernel_rfl) ?_
 simp only [zJ,Nat.reduceAdd];subst hI;simp only [nrmA,nrmB,nrlB,reduceCtorEq,HO.abs.injEq,Gh.fm.injEq]
 (repeat' (first|refine ja ?_ ?_|intro _))<;>first|omega|exact jb|exact jc ‹False›|skip
 all_goals first|omega|rfl|(subst hr;simp [*];done)|trace_state
def Zj (I:Alg):KU
 |[.v (.one (.ptr 0 0))],[.abs (.fm f)]=>some (.one ⟨I.hid (True),(.ret (.v (.one (.p (.int .i64 (I.hid (y9 f))))))),[.abs (.fm f)]⟩)
 |_,_=>none
theorem Sl:zO Tryz.prog 12 (Zj alg):=by
 intro args hp r h;unfold Zj at h;split at h<;>cases h
 rename_i f;simp only [CT.Good,zI];intro _;obtain⟨m,hd,bs,p,ln,fs,pa,sk,co,out⟩:=f
 cases ln with
 |none=>exact zhG m hd bs p fs pa sk co out
 |some ln=>exact zhF m hd bs p ln fs pa sk co out
def ug:Know Tryz.prog:=⟨12,Zj,Sl⟩
def uf:Know Tryz.prog:=⟨12,fun I=>zT I (Zj I),zi Sl⟩
theorem zhD (s:Str) (hneed:s.length≤140737488355328∧wH s=true):Spc Tryz.prog 9 [.v (.one (.p (.str s)))] [] (.ret (.tup [.one (.ptr 0 0),.one (.p (.int .i64 0))])) [.abs (.fm ((fm0 s)))]:=by
 obtain⟨hs,hm⟩:=hneed
 have hl:s.length≤70:=by unfold wH at hm;simp at hm;omega
 generalize hr:fm0 s=r;unfold fm0 fmSk at hr;simp only [jI] at hr
 refine spH Tryz.func9 (by kernel_rfl) { cfgF with keep:=some [0,2,3,4]} [Xx,Xw,zj9,zj8,YT,YS] (by kernel_rfl) ?_
 intro I X hI hX
 refine orcL ?_;go_invoke;refine orcS (by kernel_rfl) ?_
 simp only [zJ,Nat.reduceAdd];unfold zN at hr;subst hI;simp only [nrmA,nrmB,nrlB,reduceCtorEq,HO.abs.injEq,Gh.fm.injEq]
 have hM:([13,10,45,45]++s).length=s.length+4:=by simp
 generalize([13,10,45,45]++s:Str)=M at *;have h1:=YQ M 0 13
 (repeat' (first|refine ja ?_ ?_|intro _))<;>first|omega|exact jb|exact jc ‹False›|skip
 all_goals first
  |omega
  |exact .inr (by omega)
  |exact h1
  |exact Int.natCast_nonneg _
  |exact absurd (hm.symm.trans ‹wH s=false›) (by decide)
  |(subst hr;rfl)
  |(simp only [je,jf];omega)
def YM (I:Alg):KU
 |[.v (.one (.p (.str s)))],[]=>(fun(s:Str)=>(some (.one ⟨I.hid (s.length≤140737488355328∧wH s=true),(.ret (.tup [.one (.ptr 0 0),.one (.p (.int .i64 0))])),[.abs (.fm (I.hid (fm0 s)))]⟩):Option CT)) s
 |_,_=>none
theorem zbe:zO Tryz.prog 9 (YM alg):=by
 intro args hp r h;unfold YM at h
 split at h
 · cases h;exact fun hn=>zhD _ hn
 · cases h
def Ub:Know Tryz.prog:=⟨9,YM,zbe⟩
def Ua:Know Tryz.prog:=⟨9,fun I=>zT I (YM I),zi zbe⟩
theorem zli (s:Str) (hneed:s.length≤140737488355328∧wH s=false):Spc Tryz.prog 9 [.v (.one (.p (.str s)))] [] (.ret (.tup [.one (.p (.val (.pointer none))),.one (.p (.int .i64 5))])) []:=by
 obtain⟨hs,hm⟩:=hneed
 refine spH Tryz.func9 (by kernel_rfl) { cfgF with keep:=some [0,2,3,4]} [Xx,Xw,zj9,zj8,YT,YS,Ub,Ua] (by kernel_rfl) ?_
 intro I X hI hX
 refine orcL ?_;go_invoke;refine orcS (by kernel_rfl) ?_
 simp only [zJ,Nat.reduceAdd];subst hI;simp only [nrmA,nrmB,nrlB,reduceCtorEq]
 exact⟨hs,fun _=>trivial,by simp [hm]⟩
end Go.Proofs.YtjdbannldbgpeaaGreatDoor
namespace Go.Proofs.YtjdbannldbgpeaaGreatDoor
open Go Go.Sep Go.Ab
inductive GR:List Evt→Prop
 |nil:GR []
 |other {l:List Evt} {e:Evt} (h:GR l) (h2:e.kind≠2) (h5:e.kind=5→e.part.bytes=[]):GR (l++[e])
 |body {l:List Evt} {x e:Evt} (h:GR (l++[x])) (hx:x.kind=5∨x.kind=2) (h2:e.kind=2) (hb:e.bytes≠[]):GR (l++[x]++[e])
inductive GJ:List Evt→Prop
 |nil:GJ []
 |other {l:List Evt} {e:Evt} (h:GJ l) (h2:e.kind≠2) (h5:e.kind=5→e.part.bytes=[]):GJ (l++[e])
 |body {l:List Evt} {x e:Evt} (h:GJ (l++[x])) (hx:x.kind=5) (h2:e.kind=2) (hb:e.bytes≠[]):GJ (l++[x]++[e])
theorem zla {l:List Evt} {x:Evt} (h:GR (l++[x])): ∃ z y,zV (l++[x])=z++[y]∧y.kind=x.kind∧(x.kind≠2→y=x):=by
 rw [vZ]
 rcases List.eq_nil_or_concat (zV l) with hn|⟨z,y,hz⟩
 · rw [hn,uo];exact⟨[],x,rfl,rfl,fun _=>rfl⟩
 · rw [hz,List.concat_eq_append,yj]
   split
   · rename_i h;exact⟨z,_,rfl,h.1.symm,fun k=>absurd h.1 k⟩
   · exact⟨z++[y],x,rfl,rfl,fun _=>rfl⟩
theorem zlc {z:List Evt} {y:Evt} (h:GJ (z++[y])) (k:y.kind=2): ∃ l x,z=l++[x]∧GJ (l++[x])∧x.kind=5∧y.bytes≠[]:=by
 generalize hw:z++[y]=w at h
 cases h with
 |nil=>simp at hw
 | other h h2 h5=>
   have:=List.append_inj' hw rfl;have e:=List.singleton_inj.1 this.2;exact absurd (e▸k) h2
 | body h hx h2 hb=>
   have:=List.append_inj' hw rfl;have e:=List.singleton_inj.1 this.2
   exact⟨_,_,this.1,h,hx,by rw [e];exact hb⟩
theorem zmW {l:List Evt} (h:GR l):GJ (zV l):=by
 induction h with
 |nil=>exact .nil
 | @other l e h h2 h5 ih=>
   rw [vZ]
   rcases List.eq_nil_or_concat (zV l) with hn|⟨z,y,hz⟩
   · rw [hn,uo];exact GJ.other (l:=[]) .nil h2 h5
   · rw [hz,List.concat_eq_append] at ih ⊢
     rw [yj,if_neg (fun k=>h2 k.1)];exact .other ih h2 h5
 | @body l x e h hx h2 hb ih=>
   obtain⟨z,y,hz,hk,hy⟩:=zla h;rw [vZ,hz,yj];rw [hz] at ih
   by_cases k:y.kind=2
   · rw [if_pos ⟨h2,k⟩]
     obtain⟨l',x',rfl,g1,g2,g3⟩:=zlc ih k;refine .body g1 g2 rfl ?_;simp only [evB];intro h;exact g3 (List.append_eq_nil_iff.1 h).1
   · rw [if_neg (fun h=>k h.2)]
     exact .body ih (by rcases hx with hx|hx;rw [hk];exact hx;exact absurd (hk.trans hx) k) h2 hb
def GI (l:List Evt) (i:Nat) (d:Evt):Prop:=((l.getD i d).kind=2→(l.getD i d).bytes≠[]∧∃ j,i=j+1∧(l.getD j d).kind=5)∧((l.getD i d).kind=5→(l.getD i d).part.bytes=[])
theorem za0 {a b:List Evt} {i:Nat} (h:i<a.length) (d:Evt):(a++b).getD i d=a.getD i d:=by
 rw [jG,jw h,← jG]
theorem zmX {l:List Evt} (h:GJ l) (d:Evt): ∀ i,i<l.length→GI l i d:=by
 induction h with
 |nil=>intro i hi;simp at hi
 | @other l e h h2 h5 ih=>
   intro i hi;rw [jg,jm] at hi
   by_cases k:i<l.length
   · obtain⟨a,b⟩:=ih i k
     unfold GI;rw [za0 k];refine⟨fun q=> ?_,b⟩;obtain⟨a1,j,rfl,a2⟩:=a q
     exact⟨a1,j,rfl,by rw [za0 (by omega)];exact a2⟩
   · have e1:(l++[e]).getD i d=e:=by rw [show i=l.length by omega];simp
     unfold GI;rw [e1];exact⟨fun q=>absurd q h2,h5⟩
 | @body l x e h hx h2 hb ih=>
   intro i hi;rw [jg,jm] at hi
   by_cases k:i<(l++[x]).length
   · obtain⟨a,b⟩:=ih i k
     unfold GI;rw [za0 k];refine⟨fun q=> ?_,b⟩;obtain⟨a1,j,rfl,a2⟩:=a q
     exact⟨a1,j,rfl,by rw [za0 (by omega)];exact a2⟩
   · have hl:(l++[x]).length=l.length+1:=by simp
     have hi2:i=l.length+1:=by omega
     subst hi2
     have e1:(l++[x]++[e]).getD (l.length+1) d=e:=by rw [← hl];simp
     have e2:(l++[x]++[e]).getD l.length d=x:=by rw [za0 (by omega)];simp
     unfold GI;rw [e1]
     exact⟨fun _=>⟨hb,l.length,rfl,by rw [e2];exact hx⟩,fun q=>absurd (h2.symm.trans q) (by decide)⟩
def GM (f:Fm):Prop:=GR f.out∧(f.pos=6→∃ l x,f.out=l++[x]∧(x.kind=5∨x.kind=2))
theorem zhl {f:Fm} (h:GR f.out) {e:Evt} (h2:e.kind≠2) (h5:e.kind=5→e.part.bytes=[]):GR (f.out++[e]):=.other h h2 h5
theorem ZK {f:Fm} (h:GM f) (c:Int):GM (yD f c):=⟨zhl h.1 (show(4:Int)≠2 by decide) (fun e=>absurd (show(4:Int)=5 from e) (by decide)),fun e=>absurd (show(8:Int)=6 from e) (by decide)⟩
theorem zju {f:Fm} (h:GM f):GM (yL f):=by
 unfold yL
 split
 · exact ZK h _
 · split
   · exact ZK h _
   · exact⟨zhl h.1 (show(5:Int)≠2 by decide) (fun _=>zb2 f.fields),fun _=>⟨_,_,rfl,.inl rfl⟩⟩
theorem zlb {f:Fm} (h:GM f) (s:Str):GM (y8 f s):=by
 unfold y8
 split
 · exact zju h
 · split
   · exact ZK h _
   · split
     · exact ZK h _
     · exact h
theorem gm_f {f:Fm} (h:GM f) (c:UInt8):GM (fmF f c):=by
 have hno: ∀ {n:Int},n≠6→n=6→∃ l x,f.out=l++[x]∧(x.kind=5∨x.kind=2):=fun a b=>absurd b a;unfold fmF
 split
 · unfold yF
   split
   · show GR (if f.pos=6∧yH f c≠[] then f.out++[evB (yH f c)] else f.out)∧(f.pos=6→∃ l x,(if f.pos=6∧yH f c≠[] then f.out++[evB (yH f c)] else f.out)=l++[x]∧(x.kind=5∨x.kind=2))
     split
     · rename_i k
       obtain⟨l,x,e,hx⟩:=h.2 k.1;refine⟨?_,fun _=>⟨f.out,_,rfl,.inr rfl⟩⟩;have:=h.1;rw [e] at this ⊢;exact .body this hx rfl k.2
     · exact h
   · show GR (if f.pos=6 then(if yH f c≠[] then f.out++[evB (yH f c),evO] else f.out++[evO]) else f.out)∧((1:Int)=6→_)
     refine⟨?_,fun e=>absurd e (by decide)⟩
     split
     · rename_i k
       obtain⟨l,x,e,hx⟩:=h.2 k
       split
       · rename_i k2
         rw [show f.out++[evB (yH f c),evO]=f.out++[evB (yH f c)]++[evO] by simp]
         refine .other ?_ (by decide) (fun q=>absurd (show(6:Int)=5 from q) (by decide))
         have:=h.1;rw [e] at this ⊢;exact .body this hx rfl k2
       · exact .other h.1 (by decide) (fun q=>absurd (show(6:Int)=5 from q) (by decide))
     · exact h.1
 · split
   · unfold zZ
     split
     · exact⟨h.1,fun e=>absurd (show(2:Int)=6 from e) (by decide)⟩
     · split
       · exact⟨zhl h.1 (show(3:Int)≠2 by decide) (fun e=>absurd (show(3:Int)=5 from e) (by decide)),fun e=>absurd (show(7:Int)=6 from e) (by decide)⟩
       · split
         · exact⟨h.1,fun e=>absurd (show(3:Int)=6 from e) (by decide)⟩
         · split
           · exact⟨h.1,fun e=>absurd (show(4:Int)=6 from e) (by decide)⟩
           · exact ZK h 5
   · split
     · split
       · exact ZK h 2
       · exact⟨h.1,fun e=>absurd (show(5:Int)=6 from e) (by decide)⟩
     · split
       · have hk:GM { f with ln:=some (lnF (lnOf f) c).1}:=h
         split
         · exact ZK hk _
         · split
           · exact zlb hk _
           · exact hk
       · exact h
theorem zkg: ∀ (b:Str) (f:Fm),GM f→GM (yS f b)
 |[],f,h=>h
 |c::r,f,h=>zkg r (fmF f c) (gm_f h c)
theorem zkI (s b:Str) (d:Evt): ∀ i,i<(zV (zQ (fm0 s) b).out).length→GI (zV (zQ (fm0 s) b).out) i d:=
 zmX (zmW (zkg b { fm0 s with out:=[]} ⟨.nil,fun e=>absurd (show(0:Int)=6 from e) (by decide)⟩).1) d
theorem zlm {s:Str} (h:s.length≤70):FmI { fm0 s with out:=[]} 0:=by
 have h0:FmI ⟨zN s,0,ZQ (zN s),0,none,[],0,0,0,[]⟩ 0:=
  ⟨rfl,by unfold zN;simp;omega,Int.le_refl _,by unfold zN;simp;omega,⟨Int.le_refl _,(show(0:Int)≤2 by decide)⟩,⟨Int.le_refl _,(show(0:Int)≤12 by decide)⟩,jL _,(fun x hx=>by cases hx),(fun l e=>by cases e),(fun e=>absurd (show(0:Int)=5 from e) (by decide)),jL _⟩
 exact TY (TY h0 13) 10
theorem zam (l:List Evt) (d:Evt) {i:Nat} (h:i<l.length):(l.take (i+1)).foldl prtS []=prtS ((l.take i).foldl prtS []) (l.getD i d):=by
 rw [jA h,List.foldl_append]
 simp [h]
theorem zgl {l:List Evt} {d:Evt} {i:Nat} (h:i<l.length) (hg: ∀ j,j<l.length→GI l j d) (k:(l.getD i d).kind=2): ∃ z p,(l.take i).foldl prtS []=z++[p]∧p.bytes=[]∧(l.getD i d).bytes≠[]:=by
 obtain⟨hb,j,rfl,hj⟩:=(hg i h).1 k
 refine⟨(l.take j).foldl prtS [],(l.getD j d).part,?_,(hg j (by omega)).2 hj,hb⟩
 rw [zam l d (show j<l.length by omega),prtS,if_pos hj]
theorem zdl (l:List Evt): ∀ o:List Prt,(l.foldl prtS o).length≤o.length+l.length:=by
 induction l with
 |nil=>intro o;simp
 | cons e r ih=>
   intro o;have h:=ih (prtS o e)
   have h2 :(prtS o e).length≤o.length+1:=by
    unfold prtS
    split
    · simp
    · split
      · split
        · rename_i p hp
          simp only [jg,List.length_dropLast,jm];omega
        · omega
      · omega
   rw [List.foldl_cons,je];omega
theorem V7: ∀ (b:Str) (f:Fm) (i:Nat),FmI f i→zX (yS f b).out+(yS f b).held.toNat≤zX f.out+f.held.toNat+2 * b.length
 |[],f,i,h=>by simp [yS]
 | c::r,f,i,h=>by
   have h1:=V7 r (fmF f c) (i+1) (zjL h c);have h2:=zcp h c;rw [je]
   show zX (yS (fmF f c) r).out+(yS (fmF f c) r).held.toNat≤_
   omega
theorem zhE {s b:Str} (h:s.length≤70):(zV (zQ (fm0 s) b).out).length≤4 * b.length∧zX (zV (zQ (fm0 s) b).out)≤1000+2 * b.length:=by
 have hI:=zlm h;have h1:(zQ (fm0 s) b).out.length≤4 * (0+b.length):=(zcn b _ 0 hI).on;have h2:zX (zQ (fm0 s) b).out+(zQ (fm0 s) b).held.toNat≤0+(fm0 s).held.toNat+2 * b.length:=V7 b _ 0 hI;have h3:=VP (zQ (fm0 s) b).out;have h4:=VO (zQ (fm0 s) b).out;have h5:(fm0 s).held<(fm0 s).mark.length:=hI.h1;have h6:(fm0 s).mark.length≤1000:=hI.ml;have h7:0≤(fm0 s).held:=hI.h0;omega
end Go.Proofs.YtjdbannldbgpeaaGreatDoor
namespace Go.Proofs.YtjdbannldbgpeaaGreatDoor
open Go Go.Sep Go.Ab
set_option maxRecDepth 100000
set_option linter.unusedSimpArgs false
set_option linter.unusedVariables false
theorem SH (mark since:Str) (c:UInt8): ∃ out n' fd,x9 mark (P.held mark since) c=(out,n',fd)∧(fd=true↔mark≠[]∧mark<:+since++[c])∧(fd=false→n'=P.held mark (since++[c]))∧(fd=true→n'=0)∧
  P.held mark since≤since.length∧(P.held mark since<mark.length∨mark=[])∧since.drop (since.length - P.held mark since)=mark.take (P.held mark since)∧
  (if fd then mark.length else P.held mark (since++[c]))≤P.held mark since+1∧out.length≤P.held mark since+1∧
  out=((since++[c]).drop (since.length - P.held mark since)).take (P.held mark since+1 - (if fd then mark.length else P.held mark (since++[c]))):=by
 have ht:=P.uS mark since
 have hle:P.held mark since≤since.length:=by
  have h1:=ht.suf.length_le;have h2:=ht.le;rw [jq] at h1;omega
 have hdrop:since.drop (since.length - P.held mark since)=mark.take (P.held mark since):=by
  have h2:=ht.le;have:=List.suffix_iff_eq_drop.1 ht.suf
  rw [jq,Nat.min_eq_left (by omega)] at this
  exact this.symm
 have hdrop2:(since++[c]).drop (since.length - P.held mark since)=mark.take (P.held mark since)++[c]:=by
  rw [List.drop_append_of_le_length (by omega),hdrop]
 by_cases hm:mark=[]
 · subst hm
   have h0: ∀ s,P.held [] s=0:=fun s=>rfl
   refine⟨[c],0,false,by simp [x9,h0],by simp,by simp [h0],by simp,hle,.inr rfl,hdrop,by simp [h0],by simp,?_⟩
   rw [hdrop2];simp [h0]
 have hm0:0<mark.length:=by cases mark<;>simp_all
 have hlt:P.held mark since<mark.length:=by have:=ht.le;omega
 obtain⟨h1,h2,h3,h4,h5⟩:=P.zbs hm0 c ht
 have h0:(if mark=[] then(([c],P.held mark since,false):Str × Nat × Bool) else P.feed mark (P.held mark since) c)=P.feed mark (P.held mark since) c:=if_neg hm
 unfold x9;rw [h0];generalize P.feed mark (P.held mark since) c=r at *;obtain⟨out,n',fd⟩:=r;simp only at h1 h2 h3 h4 h5;refine⟨out,n',fd,rfl,⟨fun h=>⟨hm,h1.1 h⟩,fun h=>h1.2 h.2⟩,fun h=>(h2 h).eq (P.uS mark _),fun h=>(h3 h).1,hle,.inl hlt,hdrop,?_,h5,?_⟩
 · have:=congrArg List.length h4
   cases fd with
   | true=>
     simp only [if_true,jg,jq,je,jf] at this ⊢;omega
   | false=>
     have e:=(h2 rfl).eq (P.uS mark _);have e2:=(P.uS mark (since++[c])).le;rw [e] at this;simp only [jd,if_false,jg,jq,je,jf] at this ⊢;omega
 · rw [hdrop2,← h4]
   have hl:=congrArg List.length h4
   cases fd with
   | true=>
     simp only [if_true,jg,jq,je,jf] at hl ⊢
     exact(List.take_left' (by omega)).symm
   | false=>
     have e:=(h2 rfl).eq (P.uS mark _);have e2:=(P.uS mark (since++[c])).le;rw [e] at hl ⊢;simp only [jd,if_false,jg,jq,je,jf] at hl ⊢
     exact(List.take_left' (by omega)).symm
def uV (m s:Str):Prop:=∀ k,¬ m<:+s.take k
theorem uV.find {m:Str}: ∀ {s:Str} {i:Int},uV m s→zW m s i= -1
 | [],i,h=>by
   rw [zW,if_neg];intro hp;have:=List.isPrefixOf_iff_prefix.1 hp;have e:m=[]:=List.prefix_nil.1 this;subst e;exact h 0 (List.suffix_refl _)
 | x ::s,i,h=>by
   rw [zW,if_neg]
   · refine uV.find fun k hk=>h (k+1) ?_
     rw [List.take_succ_cons];exact hk.trans (List.suffix_cons _ _)
   · intro hp
     have:=List.prefix_iff_eq_take.1 (List.isPrefixOf_iff_prefix.1 hp)
     exact h m.length (by rw [← this];exact List.suffix_refl _)
theorem uV.pre {m a b:Str} (h:uV m (a++b)):uV m a:=fun k hk=>by
 refine h (min k a.length) ?_
 rw [List.take_append_of_le_length (by omega)]
 rcases Nat.le_total k a.length with hl|hl
 · rw [Nat.min_eq_left hl];exact hk
 · rw [jl hl] at hk
   rw [Nat.min_eq_right hl,List.take_length];exact hk
theorem uV.snoc {m s:Str} {c:UInt8} (h:uV m s) (hc: ¬ m<:+s++[c]):uV m (s++[c]):=fun k hk=>by
 rcases Nat.lt_or_ge s.length k with hl|hl
 · rw [jl (by simp;omega)] at hk;exact hc hk
 · rw [List.take_append_of_le_length hl] at hk;exact h k hk
theorem uV.nil {m:Str} (h:m≠[]):uV m []:=fun k hk=>by
 rw [List.take_nil] at hk;exact h (List.suffix_nil.1 hk)
theorem Xv (mark since:Str) (c:UInt8): ∃ out n' fd,x9 mark (P.held mark since) c=(out,n',fd)∧(fd=true↔mark≠[]∧mark<:+since++[c])∧(fd=false→n'=P.held mark (since++[c]))∧(fd=true→n'=0)∧
  out++(if fd then mark else mark.take n')=mark.take (P.held mark since)++[c]∧(P.held mark since<mark.length∨mark=[])∧P.held mark since≤since.length∧out.length≤P.held mark since+1:=by
 obtain⟨out,n',fd,h1,h2,h3,h4,h5,h6,h7,h8,h9,h10⟩:=SH mark since c;refine⟨out,n',fd,h1,h2,h3,h4,?_,h6,h5,h9⟩
 by_cases hm:mark=[]
 · subst hm
   have h0: ∀ s,P.held [] s=0:=fun s=>rfl;simp only [x9,h0,if_true,Prod.mk.injEq] at h1;obtain⟨rfl,rfl,rfl⟩:=h1;rfl
 have hm0:0<mark.length:=by cases mark<;>simp_all
 obtain⟨_,_,_,h4,_⟩:=P.zbs hm0 c (P.uS mark since);have h0:x9 mark (P.held mark since) c=P.feed mark (P.held mark since) c:=if_neg hm;rw [h0] at h1;rw [h1] at h4;exact h4
theorem zee {m:Str}: ∀ {a b:Str} {i:Int},(∀ k,k<a.length→¬ m<+:(a++b).drop k)→m<+:b→zW m (a++b) i=i+a.length
 | [],[],i,h,hb=>by
   rw [List.nil_append,zW,if_pos (List.isPrefixOf_iff_prefix.2 hb)];simp
 | [],x::b,i,h,hb=>by
   rw [List.nil_append,zW,if_pos (List.isPrefixOf_iff_prefix.2 hb)];simp
 | x::a,b,i,h,hb=>by
   rw [List.cons_append,zW,if_neg (fun e=>h 0 (by simp) (by simpa using List.isPrefixOf_iff_prefix.1 e))]
   rw [zee (a:=a) (b:=b) (fun k hk=>by have:=h (k+1) (by simp;omega);simpa using this) hb]
   simp only [je];omega
theorem zjy {m s r:Str} {c:UInt8} (h:uV m s) (hm:m≠[]) (k:m<:+s++[c]):zW m (s++c::r) 0=(s.length+1 - m.length:Nat)∧m.length≤s.length+1:=by
 obtain⟨a,ha⟩:=k
 have hl:a.length+m.length=s.length+1:=by have:=congrArg List.length ha;simpa using this
 have e:s++c::r=a++(m++r):=by rw [← jk,ha];simp
 rw [e,zee]
 · refine⟨by omega,by omega⟩
 · intro k hk hp
   obtain⟨t,ht⟩:=hp;refine h (k+m.length) ?_
   have h1:(a++(m++r)).take (k+m.length)=(a++(m++r)).take k++m:=by
    rw [List.take_add,← ht];simp
   have h2:(s++c::r).take (k+m.length)=s.take (k+m.length):=List.take_append_of_le_length (by omega)
   rw [← h2,e,h1];exact List.suffix_append _ _
 · exact List.prefix_append _ _
theorem Xo (m s:Str):s.take (s.length - P.held m s)++m.take (P.held m s)=s∧P.held m s≤s.length:=by
 obtain⟨_,_,_,_,_,_,_,h,_,h2,_⟩:=SH m s 0;rw [← h2,List.take_append_drop];exact⟨rfl,h⟩
end Go.Proofs.YtjdbannldbgpeaaGreatDoor
namespace Go.Proofs.YtjdbannldbgpeaaGreatDoor
open Go Go.Sep Go.Ab
theorem zk5 {r t rest:Str} (h:ve ln0 r=.line t rest): ∃ n:Nat,zdR r=(t,(n:Int),true,0)∧n≤r.length∧0<n∧rest=r.drop n:=by
 have:=zg2 r;rw [h] at this;obtain⟨n,h1,h2⟩:=this
 exact⟨n,by rw [zdR,h1];simp,h2⟩
theorem zjq {s:Ln} {c:UInt8} (h:(lnF s c).2.2.2=0):(lnF s c).1.code=0:=by
 unfold lnF at h ⊢
 split
 · rename_i h1;rw [if_pos h1] at h;exact h
 rename_i h1;rw [if_neg h1] at h
 split
 · rename_i h2
   rw [if_pos h2] at h
   split
   · rfl
   · rename_i h3;rw [if_neg h3] at h;cases h
 rename_i h2;rw [if_neg h2] at h
 split
 · rename_i h3;rw [if_pos h3] at h;cases h
 rename_i h3;rw [if_neg h3] at h
 split
 · exact Decidable.not_not.1 h1
 rename_i h4;rw [if_neg h4] at h
 split
 · rename_i h5;rw [if_pos h5] at h;cases h
 rename_i h5;rw [if_neg h5] at h
 split
 · rename_i h6;rw [if_pos h6] at h;cases h
 · exact Decidable.not_not.1 h1
theorem zjo {s:Ln} {c:UInt8} (h:(lnF s c).2.2.1=true) (h0:s.code=0):(lnF s c).2.2.2=0∧(lnF s c).1=ln0:=by
 unfold lnF at h ⊢
 rw [if_neg (by simp [h0])] at h ⊢
 split
 · rename_i h2
   rw [if_pos h2] at h
   split
   · exact⟨rfl,rfl⟩
   · rename_i h3;rw [if_neg h3] at h;cases h
 rename_i h2;rw [if_neg h2] at h
 split at h
 · cases h
 split at h
 · cases h
 split at h
 · cases h
 split at h
 · cases h
 · cases h
end Go.Proofs.YtjdbannldbgpeaaGreatDoor
namespace Go.Proofs.YtjdbannldbgpeaaGreatDoor
open Go Go.Sep Go.Ab
set_option maxRecDepth 100000
def bodF (b:Str):List Evt:=if b=[] then [] else [evB b]
def NB (l:List Evt):Prop:=∀ z x,l=z++[x]→x.kind≠2
theorem zmc:NB []:=fun z x h=>by simp at h
theorem zgU {l:List Evt} {e:Evt} (h:e.kind≠2):NB (l++[e]):=fun z x k=>by
 have:=(List.append_inj' k rfl).2;simp only [List.cons.injEq,and_true] at this;rw [← this];exact h
theorem WM {e:Evt} (h:e.kind≠2) (o:List Evt):zV (o++[e])=zV o++[e]:=by
 rw [vZ]
 rcases List.eq_nil_or_concat (zV o) with h0|⟨z,x,h0⟩
 · rw [h0];rfl
 · rw [h0,List.concat_eq_append,yj,if_neg (fun k=>h k.1)]
def ziJ (l:List Evt) (o:Str):Prop:=(∀ e ∈ l,∃ b,b≠[]∧e=evB b)∧(l.map fun e=>e.bytes).flatten=o
theorem Y4:ziJ [] []:=⟨(fun e h=>by cases h),rfl⟩
theorem SQ {b:Str} {l:List Evt} {o:Str} (h:b≠[]) (k:ziJ l o):ziJ (evB b::l) (b++o):=
 ⟨fun e m=>(List.mem_cons.1 m).elim (fun q=>⟨b,h,q⟩) (k.1 e),by rw [List.map_cons,List.flatten_cons,k.2];rfl⟩
theorem zfk {o:List Evt} (hn:NB (zV o)): ∀ (l:List Evt) (p:Str),ziJ l p→zV (o++l)=zV o++bodF p:=by
 suffices h: ∀ (l m:List Evt) (a:Str),zV (o++m)=zV o++bodF a→(∀ e ∈ l,∃ b,b≠[]∧e=evB b)→zV (o++m++l)=zV o++bodF (a++(l.map fun e=>e.bytes).flatten) by
  intro l p hb
  have:=h l [] [] (by simp [bodF]) hb.1
  rw [List.append_nil,List.nil_append,hb.2] at this;exact this
 intro l
 induction l with
 |nil=>intro m a h _;simpa using h
 | cons e l ih=>
   intro m a h hl;obtain⟨b,hb,rfl⟩:=hl e (List.mem_cons_self ..)
   have hs:zV (o++(m++[evB b]))=zV o++bodF (a++b):=by
    rw [← jk,vZ,h];unfold bodF
    rw [if_neg (show ¬ a++b=[] by simp [hb])]
    by_cases ha:a=[]
    · subst ha
      rw [if_pos rfl,List.append_nil,List.nil_append]
      rcases List.eq_nil_or_concat (zV o) with h0|⟨z,x,h0⟩
      · rw [h0];rfl
      · rw [List.concat_eq_append] at h0
        rw [h0,yj,if_neg (fun k=>hn z x h0 k.2)]
    · rw [if_neg ha,yj,if_pos ⟨rfl,rfl⟩];rfl
   have:=ih (m++[evB b]) (a++b) hs (fun x hx=>hl x (List.mem_cons_of_mem _ hx))
   rw [show o++m++evB b::l=o++(m++[evB b])++l by simp,this]
   simp [evB]
inductive HdR
 |short
 |bad (c:Int)
 |ok (l:List Fld) (rest:Str)
def X5:Nat→List Fld→Str→HdR
 |0,_,_=>.short
 | n +1,l,r=>match ve ln0 r with
   |.more _=>.short
   |.bad e _=>.bad e
   | .line t rest=>
     if t=[] then .ok l rest
     else if l.length=16 then .bad 8
     else if(xM t).2≠0 then .bad (xM t).2
     else X5 n (l++[(xM t).1]) rest
def Ux (c:UInt8):Bool:=decide (c=32∨c=9)
def preF (x:List Evt) (p:List Evt × Int):List Evt × Int:=(x++p.1,p.2)
def zi5 (m:Str) (go:Str→List Evt × Int) (k:Nat) (l:List Fld) (r:Str):List Evt × Int:=
 if(xW l).2≠0 then([evF (xW l).2],(xW l).2)
 else if k=12 then([evF 8],8)
 else if zW m (13::10::r) 0<0 then(evP (xW l).1::bodF (r.take (r.length+2 - P.held m (13::10::r) - 2)),14)
 else preF (evP (xW l).1::(bodF (r.take ((zW m (13::10::r) 0).toNat - 2))++[evO])) (go (r.drop ((zW m (13::10::r) 0).toNat+m.length - 2)))
def hdG (m:Str) (go:Str→List Evt × Int) (k:Nat) (r:Str):List Evt × Int:=
 match X5 (r.length+1) [] r with
 |.short=>([],14)
 |.bad c=>([evF c],c)
 |.ok l r2=>zi5 m go k l r2
def padG (m:Str) (go:Str→List Evt × Int) (k:Nat) (r:Str):List Evt × Int:=
 match r with
 |[]=>([],14)
 |[c]=>if c≠13 then([evF 5],5) else([],14)
 |c::d::r2=>if c≠13 then([evF 5],5) else if d≠10 then([evF 2],2) else hdG m go k r2
def X6 (m:Str):Nat→Nat→Str→List Evt × Int
 |0,_,_=>([],14)
 | f+1,k,r=>match r with
   |[]=>([],14)
   |[c]=>if c=45 then([],14) else padG m (X6 m f (k+1)) k ([c].dropWhile Ux)
   |c::d::r2=>if c=45 then(if d≠45 then([evF 5],5) else([evE],0)) else padG m (X6 m f (k+1)) k ((c::d::r2).dropWhile Ux)
def zho (m:Str) (x:Str):List Evt × Int:=
 if zW m (13::10::x) 0<0 then([],14)
 else X6 m (x.length+1) 0 (x.drop ((zW m (13::10::x) 0).toNat+m.length - 2))
theorem xG (f:Fm) (c:UInt8) (r:Str):yS f (c::r)=yS (fmF f c) r:=rfl
theorem xE {f:Fm} (h:f.pos=7∨f.pos=8): ∀ r:Str,yS f r=f
 |[]=>rfl
 | c::r=>by
   have:fmF f c=f:=by unfold fmF;rw [if_neg (by omega),if_neg (by omega),if_neg (by omega),if_neg (by omega)]
   rw [xG,this];exact xE h r
theorem TW {f:Fm} (hp:f.pos=5): ∀ (r:Str) (l:Ln),l.code=0→match ve l r with
  |.more s=>yS { f with ln:=some l} r= { f with ln:=some s}
  |.bad e _=>∃ l',yS { f with ln:=some l} r=yD { f with ln:=some l'} e
  |.line t rest=>yS { f with ln:=some l} r=yS (y8 { f with ln:=some ln0} t) rest
 |[],l,hl=>rfl
 | c ::r,l,hl=>by
   have e0:fmF { f with ln:=some l} c=(if(lnF l c).2.2.2≠0 then yD { f with ln:=some (lnF l c).1} (lnF l c).2.2.2
    else if(lnF l c).2.2.1=true then y8 { f with ln:=some (lnF l c).1} (lnF l c).2.1
    else { f with ln:=some (lnF l c).1}):=by
    unfold fmF
    rw [if_neg (show ¬ (f.pos=0∨f.pos=6) by omega),if_neg (show ¬ (f.pos=1∨f.pos=2∨f.pos=3) by omega),if_neg (show ¬ f.pos=4 by omega),if_pos (show f.pos=5 from hp)]
    rfl
   rw [xG,e0,ve]
   by_cases h1:(lnF l c).2.2.1=true
   · obtain⟨h2,h3⟩:=zjo h1 hl
     rw [if_pos h1,if_pos h1,if_neg (by simp [h2]),h3]
   · rw [if_neg h1,if_neg h1]
     by_cases h2:(lnF l c).2.2.2=0
     · rw [if_neg (by simp [h2]),if_neg (by simp [h2])]
       exact TW hp r (lnF l c).1 (zjq h2)
     · rw [if_pos h2,if_pos h2]
       exact⟨(lnF l c).1,xE (.inr rfl) r⟩
structure DtI (m:Str) (f:Fm) (s:Str):Prop where
 mr:f.mark=m
 hd:f.held=(P.held m s:Nat)
 no:uV m s
 sk:f.pos=6→f.skip=2 - min 2 ((s.length - P.held m s:Nat):Int)
theorem Xt {m:Str} (hm:m≠[]): ∀ (r:Str) (f:Fm) (s:Str),DtI m f s→f.pos=0∨f.pos=6→
  ∃ l o h sk,ziJ l o∧(f.pos=0→l=[])∧
    (zW m (s++r) 0<0→(f.pos=6→(s.take (s.length - P.held m s)).drop 2++o=((s++r).take ((s++r).length - P.held m (s++r))).drop 2)∧yS f r= { f with held:=h,skip:=sk,out:=f.out++l})∧
    (¬ zW m (s++r) 0<0→(f.pos=6→(s.take (s.length - P.held m s)).drop 2++o=((s++r).take (zW m (s++r) 0).toNat).drop 2)∧
     yS f r=yS { f with pos:=1,held:=0,skip:=0,out:=f.out++l++(if f.pos=6 then [evO] else [])} ((s++r).drop ((zW m (s++r) 0).toNat+m.length)))
 | [],f,s,hi,hp=>by
   have hn:zW m (s++[]) 0<0:=by rw [List.append_nil,hi.no.find];decide
   refine⟨[],[],f.held,f.skip,Y4,fun _=>rfl,fun _=>⟨fun _=>by simp,by simp [yS]⟩,fun h=>absurd hn h⟩
 | c :: r, f,s,hi,hp=>by
   obtain⟨out,n',fd,e1,e2,e3,e4,e5,e6,e7,e8⟩:=Xv m s c
   have hA:x9 f.mark f.held.toNat c=(out,n',fd):=by rw [hi.mr,hi.hd,jI];exact e1
   obtain⟨g1,g2⟩:=Xo m s
   have e0:fmF f c=yF f c:=by unfold fmF;rw [if_pos hp]
   have hO:yH f c=out.drop (min f.skip (out.length:Int)).toNat:=by unfold yH;rw [hA]
   have hT:f.pos=6→((s.take (s.length - P.held m s))++out).drop 2=(s.take (s.length - P.held m s)).drop 2++yH f c:=fun h=>by
    rw [List.drop_append,hO,hi.sk h]
    congr 1
    rw [jq,Nat.min_eq_left (by omega)]
    have hq: ∀ k j:Nat,min k out.length=min j out.length→out.drop k=out.drop j:=fun k j h=>by
     rcases Nat.lt_or_ge k out.length with h1|h1
     · rw [show k=j by omega]
     · rw [jE h1,jE (by omega)]
    refine hq _ _ ?_;omega
   rw [xG,e0]
   cases fd with
   | false =>
     have hns: ¬ m<:+s++[c]:=fun h=>by have:=e2.2 ⟨hm,h⟩;cases this
     have hn':=e3 rfl;simp only [jd,if_false] at e5
     have hs:s++c::r=(s++[c])++r:=by simp
     have eB:yF f c= { fmSk f c with skip:=f.skip - min f.skip (out.length:Int),out:=if f.pos=6∧yH f c≠[] then f.out++[evB (yH f c)] else f.out}:=by
      unfold yF;rw [if_pos (by rw [hA]),hA]
     have hk:(s++[c]).take ((s++[c]).length - P.held m (s++[c]))=s.take (s.length - P.held m s)++out:=by
      obtain⟨k1,k2⟩:=Xo m (s++[c])
      have:(s.take (s.length - P.held m s)++out)++m.take n'=s++[c]:=by rw [jk,e5,← jk,g1]
      rw [hn'] at this;exact List.append_cancel_right (k1.trans this.symm)
     have hl:=congrArg List.length hk;rw [jq,jg,jg,jq,jm] at hl
     have hI:DtI m (yF f c) (s++[c]):=by
      rw [eB];refine⟨hi.mr,?_,hi.no.snoc hns,fun h=> ?_⟩
      · show((x9 f.mark f.held.toNat c).2.1:Int)=_
        rw [hA,hn']
      · have hsk:=hi.sk h
        simp only;rw [jg,jm];omega
     obtain⟨l,o,h,sk,hb,h0,hN,hY⟩:=Xt hm r (yF f c) (s++[c]) hI (by rw [eB];exact hp)
     rw [hk] at hN hY;rw [hs]
     have hpos:(yF f c).pos=f.pos:=by rw [eB];rfl
     rw [hpos] at h0 hN hY
     by_cases hx:f.pos=6∧yH f c≠[]
     · have eC:yF f c= { f with held:=(n':Int),skip:=f.skip - min f.skip (out.length:Int),out:=f.out++[evB (yH f c)]}:=by
        rw [eB,if_pos hx];unfold fmSk;rw [hA]
       refine⟨evB (yH f c)::l,yH f c++o,h,sk,SQ hx.2 hb,fun q=>by omega,fun q=> ?_,fun q=> ?_⟩
       · obtain⟨a1,a2⟩:=hN q
         refine⟨fun p=> ?_,?_⟩
         · rw [← a1 p,hT p,jk]
         · rw [a2,eC];simp
       · obtain⟨a1,a2⟩:=hY q
         refine⟨fun p=> ?_,?_⟩
         · rw [← a1 p,hT p,jk]
         · rw [a2,eC];simp
     · have eC:yF f c= { f with held:=(n':Int),skip:=f.skip - min f.skip (out.length:Int)}:=by
        rw [eB,if_neg hx];unfold fmSk;rw [hA]
       refine⟨l,o,h,sk,hb,h0,fun q=> ?_,fun q=> ?_⟩
       · obtain⟨a1,a2⟩:=hN q
         refine⟨fun p=> ?_,?_⟩
         · have:yH f c=[]:=Classical.not_not.1 (fun z=>hx ⟨p,z⟩)
           rw [← a1 p,hT p,this,List.append_nil]
         · rw [a2,eC]
       · obtain⟨a1,a2⟩:=hY q
         refine⟨fun p=> ?_,?_⟩
         · have:yH f c=[]:=Classical.not_not.1 (fun z=>hx ⟨p,z⟩)
           rw [← a1 p,hT p,this,List.append_nil]
         · rw [a2,eC]
   | true=>
     obtain⟨_,hsm⟩:=e2.1 rfl;obtain⟨k1,k2⟩:=zjy (r:=r) hi.no hm hsm;simp only [if_true] at e5
     have hk:s.take (s.length - P.held m s)++out++m=s++[c]:=by rw [jk,e5,← jk,g1]
     have hl:=congrArg List.length hk;rw [jg,jg,jq,jg,jm] at hl
     have hpre:(s++c::r).take (zW m (s++c::r) 0).toNat=s.take (s.length - P.held m s)++out:=by
      rw [k1,jI,show s++c::r=(s.take (s.length - P.held m s)++out)++(m++r) by rw [← jk,hk];simp]
      exact List.take_left' (by rw [jg,jq];omega)
     have hdr:(s++c::r).drop ((zW m (s++c::r) 0).toNat+m.length)=r:=by
      rw [k1,jI,show s++c::r=(s++[c])++r by simp]
      exact List.drop_left' (by rw [jg,jm];omega)
     have h0:=e4 rfl;subst h0;rw [hpre,hdr]
     have eB:yF f c= { fmSk f c with pos:=1,skip:=0,out:=if f.pos=6 then(if yH f c≠[] then f.out++[evB (yH f c),evO] else f.out++[evO]) else f.out}:=by
      unfold yF;rw [if_neg (by rw [hA];simp)]
     have hno: ¬ zW m (s++c::r) 0<0:=by rw [k1];omega
     have hsk:fmSk f c= { f with held:=0}:=by unfold fmSk;rw [hA];rfl
     by_cases h6:f.pos=6
     · by_cases hx:yH f c=[]
       · refine⟨[],[],0,0,Y4,fun _=>rfl,fun q=>absurd q hno,fun _=>⟨fun _=> ?_,?_⟩⟩
         · rw [hT h6,hx]
         · rw [eB,hsk,if_pos h6,if_neg (by simp [hx]),if_pos h6,List.append_nil]
       · refine⟨[evB (yH f c)],yH f c,0,0,by have:=SQ hx Y4;rwa [List.append_nil] at this,fun q=>by omega,fun q=>absurd q hno,fun _=>⟨fun _=> ?_,?_⟩⟩
         · rw [hT h6]
         · rw [eB,hsk,if_pos h6,if_pos hx,if_pos h6];simp
     · refine⟨[],[],0,0,Y4,fun _=>rfl,fun q=>absurd q hno,fun _=>⟨fun q=>absurd q h6,?_⟩⟩
       rw [eB,hsk,if_neg h6,if_neg h6];simp
end Go.Proofs.YtjdbannldbgpeaaGreatDoor
namespace Go.Proofs.YtjdbannldbgpeaaGreatDoor
open Go Go.Sep Go.Ab
set_option maxRecDepth 100000
def CF (f f':Fm) (g:List Evt × Int):Prop:=zV f'.out=zV f.out++g.1∧y9 f'=g.2
structure MkI (m:Str) (f:Fm) (k:Nat):Prop where
 mr:f.mark=m
 hd:f.held=0
 pa:f.parts=(k:Int)
 nb:NB (zV f.out)
theorem ZN {f g:Fm} (h:g.out=f.out) (c:Int):CF f (yD g c) ([evF c],c):=by
 refine⟨?_,?_⟩
 · show zV (g.out++[evF c])=_
   rw [WM (show(4:Int)≠2 by decide),h]
 · unfold y9 yD;simp
theorem Y1 {f g:Fm} (h:g.out=f.out) (h7:g.pos≠7) (h8:g.pos≠8):CF f g ([],14):=by
 refine⟨by rw [h,List.append_nil],?_⟩
 unfold y9;rw [if_neg h8,if_neg h7]
theorem VT {m t:Str} (h:m=13::10::45::45::t):P.held m [13,10]=2∧uV m [13,10]∧m≠[]:=by
 have hl:m.length=t.length+4:=by rw [h];simp
 refine⟨?_,fun k hk=> ?_,by rw [h];simp⟩
 · have h1:=(P.uS m [13,10]).top 2 (by omega) (by rw [h];exact List.suffix_refl _)
   have h2:=(Xo m [13,10]).2;simp only [je,jf] at h2;omega
 · have:=hk.length_le
   rw [jq,je,je,jf] at this;omega
theorem zf4 {m t:Str} (h:m=13::10::45::45::t) {f:Fm} (hk:f.mark=m) (h0:f.held=0):fmSk (fmSk f 13) 10= { f with held:=2}:=by
 obtain⟨q1,q2,q3⟩:=VT h
 have hl:m.length=t.length+4:=by rw [h];simp
 obtain⟨out,n',fd,e1,e2,e3,-,-,-,-,-⟩:=Xv m [] 13;rw [P.zjs] at e1
 have f1:fd=false:=by
  cases fd with
  |false=>rfl
  |true=>have:=(e2.1 rfl).2.length_le;simp at this;omega
 obtain⟨out2,n2,fd2,g1,g2,g3,-,-,-,-,-⟩:=Xv m [13] 10
 have f2:fd2=false:=by
  cases fd2 with
  |false=>rfl
  |true=>have:=(g2.1 rfl).2.length_le;simp at this;omega
 have a1:fmSk f 13= { f with held:=(n':Int)}:=by
  have:x9 f.mark f.held.toNat 13=(out,n',fd):=by rw [hk,h0];exact e1
  unfold fmSk;rw [this]
 rw [a1];unfold fmSk;simp only [jI]
 have a2:x9 f.mark n' 10=(out2,n2,fd2):=by
  rw [hk,e3 f1];exact g1
 have a3:n2=2:=(g3 f2).trans q1;rw [a2,a3];rfl
theorem zdZ: ∀ (n:Nat) (r:Str) (f:Fm),r.length<n→f.pos=5→f.ln=some ln0→match X5 n f.fields r with
  |.short=>(yS f r).out=f.out∧(yS f r).pos=5
  |.bad c=>∃ g,yS f r=yD g c∧g.out=f.out
  |.ok l r2=>yS f r=yS (yL { f with fields:=l}) r2∧r2.length<r.length
 |0,r,f,h,_,_=>absurd h (Nat.not_lt_zero _)
 | n + 1, r,f,h,hp,hl=>by
   have hr:=TW hp r ln0 rfl
   have hf: { f with ln:=some ln0}=f:=by rw [← hl]
   rw [hf] at hr
   have hrest: ∀ {t rest:Str},ve ln0 r=.line t rest→rest.length<r.length:=fun h=>by
    obtain⟨n,-,h2,h3,h4⟩:=zk5 h;rw [h4,jB];omega
   rw [X5]
   cases hx:ve ln0 r with
   | more s=>
     rw [hx] at hr;simp only at hr ⊢;rw [hr];exact⟨rfl,hp⟩
   | bad e rest=>
     rw [hx] at hr;obtain⟨l',hr⟩:=hr;exact⟨_,hr,rfl⟩
   | line t rest=>
     rw [hx] at hr;have hrl:=hrest hx;simp only at hr ⊢;rw [hr];unfold y8
     by_cases ht:t=[]
     · rw [if_pos ht,if_pos ht]
       exact⟨rfl,hrl⟩
     · rw [if_neg ht,if_neg ht]
       by_cases h16:f.fields.length=16
       · rw [if_pos h16,if_pos h16]
         exact⟨f,xE (.inr rfl) _,rfl⟩
       · rw [if_neg h16,if_neg h16]
         by_cases hb:(xM t).2=0
         · rw [if_neg (show ¬ (xM t).2≠0 by simp [hb]),if_neg (show ¬ (xM t).2≠0 by simp [hb])]
           have ih:=zdZ n rest { f with fields:=f.fields++[(xM t).1]} (by omega) hp hl
           simp only at ih;generalize X5 n (f.fields++[(xM t).1]) rest=w at ih
           cases w with
           |short=>exact ih
           |bad c=>exact ih
           |ok l r2=>exact⟨ih.1,by omega⟩
         · rw [if_pos hb,if_pos hb]
           exact⟨f,xE (.inr rfl) _,rfl⟩
theorem drop2 (r:Str) (n:Nat):((13::10::r).take n).drop 2=r.take (n - 2):=by rw [List.drop_take];rfl
theorem zi4 {m t:Str} (hm:m=13::10::45::45::t) {go:Str→List Evt × Int} {k n:Nat} (ih: ∀ (r:Str) (f:Fm),r.length<n→MkI m f (k+1)→f.pos=1→CF f (yS f r) (go r))
  {r:Str} {f:Fm} (hr:r.length<n) (hi:MkI m f k):CF f (yS (yL f) r) (zi5 m go k f.fields r):=by
 unfold yL zi5
 by_cases h1:(xW f.fields).2=0
 · rw [if_neg (show ¬ (xW f.fields).2≠0 by simp [h1]),if_neg (show ¬ (xW f.fields).2≠0 by simp [h1])]
   by_cases h2:f.parts=12
   · rw [if_pos h2,if_pos (show k=12 by have:=hi.pa;omega),xE (.inr rfl)]
     exact ZN rfl 8
   · rw [if_neg h2,if_neg (show ¬ k=12 by have:=hi.pa;omega)]
     obtain⟨q1,q2,q3⟩:=VT hm
     rw [zf4 hm (f:= { f with parts:=f.parts+1,pos:=6,out:=f.out++[evP (xW f.fields).1],skip:=2}) hi.mr hi.hd]
     have hP:zV (f.out++[evP (xW f.fields).1])=zV f.out++[evP (xW f.fields).1]:=WM (show(5:Int)≠2 by decide) _
     have hN:NB (zV (f.out++[evP (xW f.fields).1])):=by rw [hP];exact zgU (show(5:Int)≠2 by decide)
     obtain⟨l,o,h,sk,hb,-,hn,hy⟩:=Xt q3 r { f with parts:=f.parts+1,pos:=6,out:=f.out++[evP (xW f.fields).1],skip:=2,held:=2} [13,10] ⟨hi.mr,by rw [q1];rfl,q2,fun _=>by rw [q1];rfl⟩ (.inr rfl)
     have hT:([13,10]:Str).take (([13,10]:Str).length - P.held m [13,10])=[]:=by rw [q1];rfl
     rw [hT] at hn hy;have hJ:=zfk hN l o hb;have ec:([13,10]:Str)++r=13::10::r:=rfl;rw [ec] at hn hy
     by_cases h3:zW m (13::10::r) 0<0
     · rw [if_pos h3]
       obtain⟨a1,a2⟩:=hn h3;have a1:=a1 rfl;rw [drop2,List.drop_nil,List.nil_append] at a1;rw [a2];refine⟨?_,rfl⟩
       show zV (f.out++[evP (xW f.fields).1]++l)=_
       rw [hJ,hP,a1];simp only [je,jk,List.cons_append,List.nil_append]
     · rw [if_neg h3]
       obtain⟨a1,a2⟩:=hy h3;have a1:=a1 rfl;rw [drop2,List.drop_nil,List.nil_append] at a1;rw [a2]
       have hml:m.length=t.length+4:=by rw [hm];simp
       have hd:(13::10::r).drop ((zW m (13::10::r) 0).toNat+m.length)=r.drop ((zW m (13::10::r) 0).toNat+m.length - 2):=by
        rw [show(zW m (13::10::r) 0).toNat+m.length=(zW m (13::10::r) 0).toNat+m.length - 2+2 by omega];rfl
       rw [hd]
       have hO:zV (f.out++[evP (xW f.fields).1]++l++[evO])=zV f.out++(evP (xW f.fields).1::(bodF (r.take ((zW m (13::10::r) 0).toNat - 2))++[evO])):=by
        rw [WM (show(6:Int)≠2 by decide),hJ,hP,a1];simp
       simp only [if_true];generalize r.drop ((zW m (13::10::r) 0).toNat+m.length - 2)=r2 at *
       have hlen:r2.length<n:=by
        have:=congrArg List.length hd;rw [jB,je,je] at this;omega
       obtain⟨c1,c2⟩:=ih r2 { f with parts:=f.parts+1,pos:=1,out:=f.out++[evP (xW f.fields).1]++l++[evO],skip:=0,held:=0} hlen ⟨hi.mr,rfl,by simp only;have:=hi.pa;omega,by rw [hO,← List.cons_append,← jk];exact zgU (show(6:Int)≠2 by decide)⟩ rfl
       refine⟨?_,c2⟩;rw [c1,hO];simp only [preF,jk]
 · rw [if_pos h1,if_pos h1,xE (.inr rfl)]
   exact ZN rfl _
theorem zgt {m t:Str} (hm:m=13::10::45::45::t) {go:Str→List Evt × Int} {k n:Nat} (ih: ∀ (r:Str) (f:Fm),r.length<n→MkI m f (k+1)→f.pos=1→CF f (yS f r) (go r)):
  ∀ (r:Str) (f:Fm),r.length≤n→MkI m f k→f.pos=3→CF f (yS f r) (padG m go k (r.dropWhile Ux))
 |[],f,_,_,hp=>Y1 rfl (by show f.pos≠7;rw [hp];decide) (by show f.pos≠8;rw [hp];decide)
 | c :: r, f,hr,hi,hp=>by
   have e0:fmF f c=zZ f c:=by unfold fmF;rw [if_neg (by omega),if_pos (by omega)]
   rw [xG,e0];unfold zZ
   rw [if_neg (fun h=>by omega),if_neg (fun h=>by omega)]
   rw [je] at hr
   by_cases hb:c=32∨c=9
   · rw [if_pos ⟨by omega,hb⟩]
     have hf: { f with pos:=3}=f:=by rw [← hp]
     rw [hf,List.dropWhile_cons_of_pos (by unfold Ux;exact decide_eq_true hb)]
     exact zgt hm ih r f (by omega) hi hp
   · rw [if_neg (fun h=>hb h.2),List.dropWhile_cons_of_neg (by unfold Ux;simpa using hb)]
     by_cases h13:c=13
     · rw [if_pos ⟨by omega,h13⟩]
       cases r with
       | nil=>
         simp only [padG,h13,ne_eq,not_true_eq_false,if_false]
         exact Y1 rfl (show(4:Int)≠7 by decide) (show(4:Int)≠8 by decide)
       | cons d r2=>
         rw [xG]
         have e1:fmF { f with pos:=4} d=if d≠10 then yD { f with pos:=4} 2 else { f with pos:=5,ln:=some ln0,fields:=[]}:=by
          unfold fmF
          rw [if_neg (show ¬ ((4:Int)=0∨(4:Int)=6) by decide),if_neg (show ¬ ((4:Int)=1∨(4:Int)=2∨(4:Int)=3) by decide),if_pos rfl]
         rw [e1];simp only [padG,h13,ne_eq,not_true_eq_false,if_false]
         by_cases h10:d=10
         · rw [if_neg (by simp [h10]),if_neg (by simp [h10])]
           rw [je] at hr
           have hh:=zdZ (r2.length+1) r2 { f with pos:=5,ln:=some ln0,fields:=[]} (by omega) rfl rfl
           simp only at hh;unfold hdG;generalize X5 (r2.length+1) [] r2=w at hh
           cases w with
           |short=>exact Y1 hh.1 (by rw [hh.2];decide) (by rw [hh.2];decide)
           | bad c=>
             obtain⟨g,g1,g2⟩:=hh;rw [g1];exact ZN g2 c
           | ok l r3=>
             obtain⟨g1,g2⟩:=hh;rw [g1]
             exact zi4 hm ih (f:= { f with pos:=5,ln:=some ln0,fields:=l}) (by omega) ⟨hi.mr,hi.hd,hi.pa,hi.nb⟩
         · rw [if_pos h10,if_pos h10,xE (.inr rfl)]
           exact ZN rfl 2
     · rw [if_neg (fun h=>h13 h.2),xE (.inr rfl)]
       cases r with
       |nil=>simp only [padG];rw [if_pos h13];exact ZN rfl 5
       |cons d r2=>simp only [padG];rw [if_pos h13];exact ZN rfl 5
theorem zbB {f:Fm} (hp:f.pos=1∨f.pos=3) {c:UInt8} (hc:c≠45):zZ f c=if c=32∨c=9 then { f with pos:=3} else if c=13 then { f with pos:=4} else yD f 5:=by
 unfold zZ
 have p2:f.pos≠2:=by omega
 rw [if_neg (fun h=>hc h.2),if_neg (fun h=>hc h.2)];simp only [p2,ne_eq,not_false_eq_true,true_and]
theorem zd0 {m t:Str} (hm:m=13::10::45::45::t): ∀ (n k:Nat) (r:Str) (f:Fm),r.length<n→MkI m f k→f.pos=1→CF f (yS f r) (X6 m n k r)
 |0,k,r,f,h,_,_=>absurd h (Nat.not_lt_zero _)
 |n+1,k,[],f,h,hi,hp=>Y1 rfl (by show f.pos≠7;rw [hp];decide) (by show f.pos≠8;rw [hp];decide)
 | n + 1,k,c::r,f,h,hi,hp=>by
   have e0:fmF f c=zZ f c:=by unfold fmF;rw [if_neg (by omega),if_pos (by omega)]
   have hpad:c≠45→CF f (yS f (c::r)) (padG m (X6 m n (k+1)) k ((c::r).dropWhile Ux)):=fun hc=>by
    have e1:fmF f c=fmF { f with pos:=3} c:=by
     have e2:fmF { f with pos:=3} c=zZ { f with pos:=3} c:=by unfold fmF;rw [if_neg (show ¬ ((3:Int)=0∨(3:Int)=6) by decide),if_pos (show(3:Int)=1∨(3:Int)=2∨(3:Int)=3 by decide)]
     rw [e0,e2,zbB (.inl hp) hc,zbB (f:= { f with pos:=3}) (.inr rfl) hc]
     rfl
    rw [xG,e1,← xG];rw [je] at h
    exact zgt hm (fun r2 f2 h2 i2 p2=>zd0 hm n (k+1) r2 f2 h2 i2 p2) (c::r) { f with pos:=3} (by rw [je];omega) ⟨hi.mr,hi.hd,hi.pa,hi.nb⟩ rfl
   by_cases hc:c=45
   · cases r with
     | nil=>
       rw [X6,if_pos hc,xG,e0];unfold zZ;rw [if_pos ⟨hp,hc⟩]
       exact Y1 rfl (show(2:Int)≠7 by decide) (show(2:Int)≠8 by decide)
     | cons d r2=>
       rw [X6,if_pos hc,xG,e0,xG]
       have e1:zZ f c= { f with pos:=2}:=by unfold zZ;rw [if_pos ⟨hp,hc⟩]
       have e2:fmF { f with pos:=2} d=if d=45 then { f with pos:=7,out:=f.out++[evE]} else yD { f with pos:=2} 5:=by
        unfold fmF
        rw [if_neg (show ¬ ((2:Int)=0∨(2:Int)=6) by decide),if_pos (show(2:Int)=1∨(2:Int)=2∨(2:Int)=3 by decide)]
        unfold zZ
        rw [if_neg (fun h=>absurd (show(2:Int)=1 from h.1) (by decide))]
        by_cases hd:d=45
        · rw [if_pos ⟨rfl,hd⟩,if_pos hd]
        · rw [if_neg (fun h=>hd h.2),if_neg (fun h=>h.1 rfl),if_neg (fun h=>h.1 rfl),if_neg hd]
       rw [e1,e2]
       by_cases hd:d=45
       · rw [if_pos hd,if_neg (by simp [hd]),xE (.inl rfl)]
         refine⟨?_,rfl⟩
         show zV (f.out++[evE])=_
         rw [WM (show(3:Int)≠2 by decide)]
       · rw [if_neg hd,if_pos hd,xE (.inr rfl)]
         exact ZN rfl 5
   · cases r with
     |nil=>rw [X6,if_neg hc];exact hpad hc
     |cons d r2=>rw [X6,if_neg hc];exact hpad hc
theorem zmv (s:Str):fm0 s= { (⟨zN s,0,ZQ (zN s),0,none,[],0,0,0,[]⟩:Fm) with held:=2}:=by
 unfold fm0;exact zf4 (m:=zN s) (t:=s) rfl rfl rfl
theorem zjz (s x:Str):zV (zQ (fm0 s) x).out=(zho (zN s) x).1∧y9 (zQ (fm0 s) x)=(zho (zN s) x).2:=by
 obtain⟨q1,q2,q3⟩:=VT (m:=zN s) (t:=s) rfl;unfold zQ zho;rw [zmv]
 obtain⟨l,o,h,sk,hb,h0,hn,hy⟩:=Xt q3 x ⟨zN s,2,ZQ (zN s),0,none,[],0,0,0,[]⟩ [13,10] ⟨rfl,by rw [q1];rfl,q2,fun e=>absurd (show(0:Int)=6 from e) (by decide)⟩ (.inl rfl)
 have h0:=h0 rfl;subst h0;have ec:([13,10]:Str)++x=13::10::x:=rfl;rw [ec] at hn hy
 by_cases h3:zW (zN s) (13::10::x) 0<0
 · rw [if_pos h3]
   have:=(hn h3).2;simp only at this ⊢;rw [this];exact⟨rfl,rfl⟩
 · rw [if_neg h3]
   have:=(hy h3).2;simp only at this ⊢;rw [this]
   have hml:(zN s).length=s.length+4:=by simp [zN]
   have hd:(13::10::x).drop ((zW (zN s) (13::10::x) 0).toNat+(zN s).length)=x.drop ((zW (zN s) (13::10::x) 0).toNat+(zN s).length - 2):=by
    rw [show(zW (zN s) (13::10::x) 0).toNat+(zN s).length=(zW (zN s) (13::10::x) 0).toNat+(zN s).length - 2+2 by omega];rfl
   rw [hd]
   obtain⟨c1,c2⟩:=zd0 (m:=zN s) (t:=s) rfl (x.length+1) 0 (x.drop ((zW (zN s) (13::10::x) 0).toNat+(zN s).length - 2)) ⟨zN s,0,ZQ (zN s),1,none,[],0,0,0,[]⟩ (by rw [jB];omega) ⟨rfl,rfl,rfl,zmc⟩ rfl
   exact⟨by rw [show([]:List Evt)++[]++(if(0:Int)=6 then [evO] else [])=[] from rfl];exact c1,c2⟩
end Go.Proofs.YtjdbannldbgpeaaGreatDoor
namespace Go.Proofs.YtjdbannldbgpeaaGreatDoor
open Go Go.Sep Go.Ab
set_option maxRecDepth 100000
theorem zeP {f:Fld} (h:(textF f).2=0):yG (textF f).1=true∧(textF f).1≠[]:=by
 obtain⟨h1,h2,h3⟩:=zc2 h
 have happ: ∀ a b:Str,yG (a++b)=(yG a&&yG b):=fun a b=>by unfold yG;rw [List.all_append]
 rw [h3,happ,happ];have:=yI h1.tok;have hn:yG f.name=true:=ZX this.2;rw [hn,h1.seen]
 exact⟨by decide+kernel,by simp⟩
theorem zde {s:Str} (t:Str) (h:yG s=true) (hl:s.length≤200):ve ln0 (s++13::10::t)=.line s t:=by
 have h1:=zg2 (s++13::10::t);have h2:wE [] (s++13::10::t)=(s,(s.length:Int)+2,true,0):=zfh t h hl
 cases hr:ve ln0 (s++13::10::t) with
 | more q=>
   rw [hr] at h1;have h3:=h1.1;rw [h2] at h3
   simp at h3
 | bad e r=>
   rw [hr] at h1;obtain⟨n,h3,_⟩:=h1;rw [h2] at h3
   simp at h3
 | line u r=>
   rw [hr] at h1;obtain⟨n,h3,_,_,h4⟩:=h1;rw [h2] at h3;simp only [Prod.mk.injEq,jf,Nat.zero_add] at h3
   have hn:n=s.length+2:=by omega
   rw [← h3.1,h4,hn,← List.drop_drop,List.drop_left];rfl
def rF:List Fld→Str
 |[]=>[]
 |f::r=>(textF f).1++[13,10]++rF r
theorem TJ: ∀ (fs:List Fld) (n:Nat) (l:List Fld) (r:Str),(∀ f ∈ fs,(textF f).2=0)→l.length+fs.length≤16→X5 (n+fs.length) l (rF fs++r)=X5 n (l++fs) r
 |[],n,l,r,_,_=>by simp [rF]
 | f::fs,n,l,r,hf,hl=>by
   have h0:=hf f (List.mem_cons_self ..);obtain⟨e1,e2⟩:=zeO h0;obtain⟨e3,e4⟩:=zeP h0;rw [je] at hl;have hr:=zde (rF fs++r) e3 e2
   rw [show n+(f::fs).length=(n+fs.length)+1 by rw [je];omega,show rF (f::fs)++r=(textF f).1++13::10::(rF fs++r) by simp [rF],X5,hr]
   simp only
   rw [if_neg e4,if_neg (by omega),e1,if_neg (by simp)]
   rw [TJ fs n (l++[f]) r (fun y hy=>hf y (List.mem_cons_of_mem _ hy)) (by simp;omega),jk]
   rfl
theorem zhi (n:Nat) (l:List Fld) (r:Str):X5 (n+1) l (13::10::r)=.ok l r:=by
 have hr:=zde (s:=[]) r rfl (jL _);rw [List.nil_append] at hr;rw [X5,hr];simp only;rw [if_pos trivial]
theorem zbn: ∀ fs:List Fld,fs.length≤(rF fs).length
 |[]=>jK _
 | f::fs=>by
   have:=zbn fs;rw [rF,jg,jg,je,je,je,jf];omega
theorem zhj (fs:List Fld) (r:Str) (hf: ∀ f ∈ fs,(textF f).2=0) (hl:fs.length≤16):X5 ((rF fs++13::10::r).length+1) [] (rF fs++13::10::r)=.ok fs r:=by
 have h1:=zbn fs
 obtain⟨n,hn⟩: ∃ n,(rF fs++13::10::r).length+1=(n+1)+fs.length:=⟨(rF fs++13::10::r).length - fs.length,by rw [jg];omega⟩
 rw [hn,TJ fs (n+1) [] _ hf (by simpa using hl),zhi,List.nil_append]
theorem Ug {m r:Str} (hm:m≠[]) (h13: ∀ j,0<j→j<m.length→m.getD j 0≠m.getD 0 0): ∀ (s:Str) (i:Int),0≤i→zW m s i<0→zW m (s++(m++r)) i=i+s.length
 | [],i,_,_=>by
   have hp:m.isPrefixOf (m++r)=true:=by rw [List.isPrefixOf_iff_prefix];exact List.prefix_append m r
   cases hmr:m++r with
   |nil=>exact absurd (List.append_eq_nil_iff.1 hmr).1 hm
   | cons x b=>
     rw [List.nil_append,zW,← hmr,if_pos hp];simp
 | x :: s, i,hi,h=>by
   rw [zW] at h
   have hp: ¬ m.isPrefixOf (x::s)=true:=fun q=>by rw [if_pos q] at h;omega
   rw [if_neg hp] at h
   have hp2: ¬ m.isPrefixOf (x::s++(m++r))=true:=fun q=>by
    rw [List.isPrefixOf_iff_prefix] at q
    rcases Nat.lt_or_ge (x::s).length m.length with h1|h1
    · have hg:m.getD (x::s).length 0=m.getD 0 0:=by
       obtain⟨t,ht⟩:=q
       have e1:(m++t).getD (x::s).length 0=m.getD (x::s).length 0:=by
        rw [jG,jw h1,← jG]
       rw [← e1,ht,jG,jy (jK _),Nat.sub_self,← jG]
       cases m with
       |nil=>exact absurd rfl hm
       |cons c m=>rfl
      exact h13 _ (by rw [je];omega) h1 hg
    · apply hp
      rw [List.isPrefixOf_iff_prefix];exact List.prefix_of_prefix_length_le q (List.prefix_append _ _) h1
   rw [List.cons_append,zW,← List.cons_append,if_neg hp2,Ug hm h13 s (i+1) (by omega) h,je]
   omega
theorem zgZ {b:Str} (h:wH b=true): ∀ j,0<j→j<(zN b).length→(zN b).getD j 0≠(zN b).getD 0 0:=by
 have hs:yG b=true:=by unfold wH at h;simp at h;exact h.2.1
 intro j h0 hj
 rcases j with _|_|_|_|j
 · omega
 · show(10:UInt8)≠13;decide
 · show(45:UInt8)≠13;decide
 · show(45:UInt8)≠13;decide
 · have hb:j<b.length:=by unfold zN at hj;simp at hj;omega
   have e:(zN b).getD (j+1+1+1+1) 0=b[j]:=by unfold zN;simp [hb]
   rw [e];intro q;have h2:qc ((b[j]).toNat:Int)=true:=(List.all_eq_true.1 hs) _ (List.getElem_mem hb);rw [q] at h2
   exact absurd (show qc ((13:UInt8).toNat:Int)=true from h2) (by decide+kernel)
def bare (p:Prt):Prt:=⟨p.name,p.file,p.type,[]⟩
theorem zmf:lowS cdS=lowS wY∧¬ lowS ctS=lowS wY∧lowS ctS=lowS Un∧¬ lowS cdS=lowS Un:=by decide+kernel
theorem zgo {p:Prt} (h:(xJ p).2=0):xW (xJ p).1=(bare p,0):=by
 unfold xJ at h ⊢
 by_cases h1:p.file≠[]∧Xg p.file≠p.file
 · rw [if_pos h1] at h;cases h
 rw [if_neg h1] at h ⊢
 by_cases h2:(uz p).2≠0
 · rw [if_pos h2] at h;exact absurd h h2
 rw [if_neg h2] at h ⊢;have h2:(Xd fdW (Xn p)).2=0:=Decidable.not_not.1 h2;have hb:=zfU h2;obtain⟨l1,l2,l3,l4⟩:=zmf
 have v1:valsF (⟨cdS,(uz p).1⟩::(if p.type=[] then [] else [⟨ctS,p.type⟩])) wY=[(uz p).1]:=by
  unfold valsF
  split<;>simp [l1,l2]
 have v2:valsF (⟨cdS,(uz p).1⟩::(if p.type=[] then [] else [⟨ctS,p.type⟩])) Un=if p.type=[] then [] else [p.type]:=by
  unfold valsF
  split<;>simp [l3,l4]
 unfold xW;simp only;rw [v1,v2,show oneF [(uz p).1]=((uz p).1,0) from rfl];simp only;rw [show wO (uz p).1=(⟨fdW,Xn p⟩,0) from hb];simp only;have g1:getP (Xn p) zji=(p.name,true):=rfl
 have g2:getP (Xn p) zhN=if p.file=[] then([],false) else(p.file,true):=by
  unfold Xn
  split
  · rfl
  · rfl
 have g3:getP (Xn p) SG=([],false):=by
  unfold Xn
  split
  · rfl
  · rfl
 rw [g1,g2,g3]
 have t1:oneF (if p.type=[] then [] else [p.type])=if p.type=[] then([],10) else(p.type,0):=by split<;>rfl
 rw [t1];unfold zgp
 rw [if_neg (by simp),if_neg (by simp),if_neg (show ¬ fdW≠zhP from fun q=>q rfl),if_neg (by simp),if_neg (by simp),if_neg (by split<;>simp)]
 congr 1
 unfold bare
 congr 1
 · unfold zkN
   rw [if_neg (by simp)]
   by_cases hf:p.file=[]
   · rw [if_pos hf,hf];rfl
   · rw [if_neg hf,if_pos rfl]
     exact Decidable.not_not.1 fun q=>h1 ⟨hf,q⟩
 · unfold partT
   by_cases ht:p.type=[]
   · rw [if_pos ht,ht];rfl
   · rw [if_neg ht];rfl
end Go.Proofs.YtjdbannldbgpeaaGreatDoor
namespace Go.Proofs.YtjdbannldbgpeaaGreatDoor
open Go Go.Sep Go.Ab
set_option maxRecDepth 100000
def vC (o:List Evt) (f:Fm):Fm:= { f with out:=o++f.out}
theorem sK (o:List Evt) (f:Fm) (c:Int):yD (vC o f) c=vC o (yD f c):=by
 unfold yD vC
 simp
theorem zcs (o:List Evt) (f:Fm):yL (vC o f)=vC o (yL f):=by
 unfold yL;have e1:(vC o f).fields=f.fields:=rfl;have e2:(vC o f).parts=f.parts:=rfl;rw [e1,e2,sK,sK]
 split
 · rfl
 · split
   · rfl
   · simp [fmSk,vC]
theorem zfo (o:List Evt) (f:Fm) (s:Str):y8 (vC o f) s=vC o (y8 f s):=by
 unfold y8;have e1:(vC o f).fields=f.fields:=rfl;rw [e1,sK,sK,zcs]
 repeat' split
 all_goals rfl
theorem zlj (o:List Evt) (f:Fm) (c:UInt8):fmF (vC o f) c=vC o (fmF f c):=by
 obtain⟨m,hd,bs,p,ln,fs,pa,sk,co,out⟩:=f;have hl: ∀ (l:Option Ln) (s:Str),y8 ⟨m,hd,bs,p,l,fs,pa,sk,co,o++out⟩ s=vC o (y8 ⟨m,hd,bs,p,l,fs,pa,sk,co,out⟩ s):=fun l s=>zfo o ⟨m,hd,bs,p,l,fs,pa,sk,co,out⟩ s;have hc:lnOf ⟨m,hd,bs,p,ln,fs,pa,sk,co,o++out⟩=lnOf ⟨m,hd,bs,p,ln,fs,pa,sk,co,out⟩:=rfl;have hF: ∀ (l:Option Ln) (e:Int),yD ⟨m,hd,bs,p,l,fs,pa,sk,co,o++out⟩ e=vC o (yD ⟨m,hd,bs,p,l,fs,pa,sk,co,out⟩ e):=fun l e=>sK o ⟨m,hd,bs,p,l,fs,pa,sk,co,out⟩ e
 have hb:zZ ⟨m,hd,bs,p,ln,fs,pa,sk,co,o++out⟩ c=vC o (zZ ⟨m,hd,bs,p,ln,fs,pa,sk,co,out⟩ c):=by
  unfold zZ;simp only [hF]
  repeat' split
  all_goals first|rfl|(simp [vC];done)
 have hy:yF ⟨m,hd,bs,p,ln,fs,pa,sk,co,o++out⟩ c=vC o (yF ⟨m,hd,bs,p,ln,fs,pa,sk,co,out⟩ c):=by
  have ho:yH ⟨m,hd,bs,p,ln,fs,pa,sk,co,o++out⟩ c=yH ⟨m,hd,bs,p,ln,fs,pa,sk,co,out⟩ c:=rfl;unfold yF;rw [ho];simp only
  split
  · split
    · simp [vC,fmSk]
    · rfl
  · split
    · split
      · simp [vC,fmSk]
      · simp [vC,fmSk]
    · rfl
 show fmF ⟨m,hd,bs,p,ln,fs,pa,sk,co,o++out⟩ c=_
 unfold fmF;simp only [hl,hc,hF,hb,hy]
 repeat' split
 all_goals rfl
theorem zhx (o:List Evt) (b:Str): ∀ (f:Fm),yS (vC o f) b=vC o (yS f b):=by
 induction b with
 |nil=>intro f;rfl
 |cons c r ih=>intro f;show yS (fmF (vC o f) c) r=_;rw [zlj];exact ih _
theorem zhy (f:Fm) (a b:Str):yS f (a++b)=yS (yS f a) b:=List.foldl_append
def wX (f:Fm):Fm:= { f with out:=[]}
theorem zfq (f:Fm) (a b:Str):wX (zQ (zQ f a) b)=wX (zQ f (a++b))∧(zQ f (a++b)).out=(zQ f a).out++(zQ (zQ f a) b).out:=by
 have h1:zQ f (a++b)=yS (zQ f a) b:=zhy _ a b
 have h2:zQ f a=vC (zQ f a).out (wX (zQ f a)):=by
  unfold vC wX;simp
 have h3:yS (zQ f a) b=vC (zQ f a).out (zQ (zQ f a) b):=by
  conv=>lhs;rw [h2]
  rw [zhx];rfl
 rw [h1,h3];exact⟨rfl,rfl⟩
theorem zco {p q:Fm} (h:wX p=wX q) (b:Str):zQ p b=zQ q b:=by
 show yS (wX p) b=yS (wX q) b
 rw [h]
theorem zmy {L:List Str} {i:Nat} (h:i<L.length):(L.take (i+1)).flatten=(L.take i).flatten++L.getD i []:=by
 rw [jA h,List.flatten_append,show L.getD i []=L[i] by simp [h]];simp
theorem zea (L:List Str) (i:Nat):(L.take i).flatten.length≤L.flatten.length:=by
 have h:L.flatten=(L.take i).flatten++(L.drop i).flatten:=by rw [← List.flatten_append,List.take_append_drop]
 rw [h,jg];omega
theorem zjE {f:Fm} {i:Nat} {o:List Evt} (h:FmI f i) (k:o.length≤4 * i):FmI { f with out:=o} i:=
 ⟨h.bs,h.ml,h.h0,h.h1,h.s0,h.p0,h.fl,h.ff,h.lb,h.p5,k⟩
def EvN (l:List Evt):Prop:=∀ e ∈ l,e.head=hd0
theorem Qz {a b:List Evt} (h:EvN a) (k:EvN b):EvN (a++b):=fun e m=>(List.mem_append.1 m).elim (h e) (k e)
theorem zh4 {e:Evt} (h:e.head=hd0):EvN [e]:=fun x m=>by rw [List.mem_singleton.1 m];exact h
theorem zh5 {o:List Evt} {e:Evt} (h:EvN (o++[e])):EvN (wI o e):=by
 rcases List.eq_nil_or_concat o with rfl|⟨z,x,rfl⟩
 · exact h
 · rw [List.concat_eq_append] at h ⊢
   rw [yj]
   split
   · exact Qz (fun y m=>h y (by simp [m])) (zh4 rfl)
   · exact h
theorem zeq: ∀ (l o:List Evt),EvN (o++l)→EvN (l.foldl wI o)
 |[],o,h=>by rw [List.append_nil] at h;exact h
 | e::l,o,h=>by
   rw [List.foldl_cons];refine zeq l _ ?_
   rw [show o++e::l=(o++[e])++l by simp] at h
   exact Qz (zh5 fun y m=>h y (List.mem_append_left _ m)) (fun y m=>h y (List.mem_append_right _ m))
theorem zmZ {f:Fm} (h:EvN f.out) (c:UInt8):EvN (fmF f c).out:=by
 have h1: ∀ (o:List Evt) (e:Evt),EvN o→e.head=hd0→EvN (o++[e]):=fun o e a b=>Qz a (zh4 b)
 have hb: ∀ g:Fm,EvN g.out→EvN (yL g).out:=fun g k=>by
  unfold yL
  split
  · exact h1 _ _ k rfl
  · split
    · exact h1 _ _ k rfl
    · exact h1 _ _ k rfl
 have hl: ∀ (g:Fm) (s:Str),EvN g.out→EvN (y8 g s).out:=fun g s k=>by
  unfold y8
  split
  · exact hb g k
  · split
    · exact h1 _ _ k rfl
    · split
      · exact h1 _ _ k rfl
      · exact k
 unfold fmF
 split
 · unfold yF
   split
   · show EvN (if f.pos=6∧yH f c≠[] then f.out++[evB (yH f c)] else f.out)
     split
     · exact h1 _ _ h rfl
     · exact h
   · show EvN (if f.pos=6 then(if yH f c≠[] then f.out++[evB (yH f c),evO] else f.out++[evO]) else f.out)
     split
     · split
       · rw [show f.out++[evB (yH f c),evO]=f.out++[evB (yH f c)]++[evO] by simp]
         exact h1 _ _ (h1 _ _ h rfl) rfl
       · exact h1 _ _ h rfl
     · exact h
 · split
   · unfold zZ
     split
     · exact h
     · split
       · exact h1 _ _ h rfl
       · split
         · exact h
         · split
           · exact h
           · exact h1 _ _ h rfl
   · split
     · split
       · exact h1 _ _ h rfl
       · exact h
     · split
       · split
         · exact h1 _ _ h rfl
         · split
           · exact hl _ _ h
           · exact h
       · exact h
theorem zhA: ∀ (b:Str) (f:Fm),EvN f.out→EvN (yS f b).out
 |[],f,h=>h
 |c::r,f,h=>zhA r (fmF f c) (zmZ h c)
theorem zjI (f:Fm) (b:Str):EvN (zV (zQ f b).out):=zeq _ [] (zhA b { f with out:=[]} (fun e m=>by cases m))
structure FcI (s b:Str) (L:List Str) (i:Nat) (f:Fm) (al:List Evt):Prop where
 le:i≤L.length
 ri:FmI { f with out:=[]} (L.take i).flatten.length
 ba:wX f=wX (zQ (fm0 s) (L.take i).flatten)
 jo:zV al=zV (zQ (fm0 s) (L.take i).flatten).out
 su:zX al+f.held.toNat≤1000+2 * (L.take i).flatten.length
 ln:al.length≤i * (4 * b.length)
 ob:EvN al
theorem zm1 {s:Str} (hs:s.length≤70) (b:Str) (L:List Str):FcI s b L 0 (fm0 s) []:=by
 have hI:=zlm hs
 refine⟨jL _,by simpa using hI,rfl,rfl,?_,jL _,fun e h=>by cases h⟩
 have h5:(fm0 s).held<(fm0 s).mark.length:=hI.h1;have h6:(fm0 s).mark.length≤1000:=hI.ml;have h7:0≤(fm0 s).held:=hI.h0
 simp [zX];omega
theorem zhR {s b:Str} {L:List Str} {i:Nat} (hf:L.flatten=b) (k:i<L.length):(L.take i).flatten.length+(L.getD i []).length≤b.length:=by
 have h1:=zmy k;have h2:=zea L (i+1);rw [h1,jg,hf] at h2;exact h2
theorem zjQ {s b:Str} {L:List Str} {i:Nat} {f:Fm} {al:List Evt} (h:FcI s b L i f al) (hf:L.flatten=b) (k:i<L.length) (hb:b.length≤20000):fmN0 f (L.getD i []):=by
 refine⟨_,h.ri,?_⟩;have:=zhR (s:=s) hf k;omega
theorem zm0 {s b:Str} {L:List Str} {i:Nat} {f:Fm} {al:List Evt} (h:FcI s b L i f al) (hf:L.flatten=b) (k:i<L.length) (hb:b.length≤20000):FcI s b L (i+1) (zQ f (L.getD i [])) (al++zV (zQ f (L.getD i [])).out):=by
 have h1:=zmy k;have h2:=zhR (s:=s) hf k;obtain⟨a1,a2⟩:=zfq (fm0 s) (L.take i).flatten (L.getD i []);rw [← zco h.ba] at a1 a2;have hr:FmI (zQ f (L.getD i [])) ((L.take i).flatten.length+(L.getD i []).length):=zcn _ _ _ h.ri;have hp:=V7 (L.getD i []) _ _ h.ri;have hp:zX (zQ f (L.getD i [])).out+(zQ f (L.getD i [])).held.toNat≤zX []+f.held.toNat+2 * (L.getD i []).length:=hp;have hz:zX []=0:=rfl;have ho:=hr.on
 have hlen:(L.take (i+1)).flatten.length=(L.take i).flatten.length+(L.getD i []).length:=by rw [h1,jg]
 have hj:=VP (zQ f (L.getD i [])).out;have hjs:=VO (zQ f (L.getD i [])).out;refine⟨k,?_,?_,?_,?_,?_,?_⟩
 · rw [hlen];exact zjE hr (jL _)
 · rw [a1,h1]
 · rw [zaN,← TA,h.jo,TA,h1,a2]
 · rw [xg,hlen];have:=h.su;omega
 · rw [jg,Nat.succ_mul];have:=h.ln;omega
 · exact Qz h.ob (zjI f _)
theorem zlo {s b:Str} {L:List Str} {f:Fm} {al:List Evt} (h:FcI s b L L.length f al) (hf:L.flatten=b):wX f=wX (zQ (fm0 s) b)∧zV al=zV (zQ (fm0 s) b).out:=by
 have h1:=h.ba;have h2:=h.jo;rw [List.take_length,hf] at h1 h2;exact⟨h1,h2⟩
theorem zfz {p q:Fm} (h:wX p=wX q):y9 p=y9 q:=by
 have h1:(wX p).pos=(wX q).pos:=by rw [h]
 have h2:(wX p).code=(wX q).code:=by rw [h]
 have h1:p.pos=q.pos:=h1;have h2:p.code=q.code:=h2;unfold y9;rw [h1,h2]
end Go.Proofs.YtjdbannldbgpeaaGreatDoor
namespace Go.Proofs.YtjdbannldbgpeaaGreatDoor
open Go Go.Sep Go.Ab
set_option maxRecDepth 100000
def tailW (b:Str):List Prt→Str
 |[]=>[45,45,13,10]
 |p::r=>13::10::(rF (xJ p).1++13::10::(p.bytes++(zN b++tailW b r)))
structure PkOk (b:Str) (p:Prt):Prop where
 cl:Us b p=false
 hd:(xJ p).2=0
 fl: ∀ f ∈ (xJ p).1,(textF f).2=0
theorem zaH: ∀ (fs:List Fld) (a:Str),(wB fs a).2=0→wB fs a=(a++rF fs,0)∧∀ f ∈ fs,(textF f).2=0
 |[],a,_=>⟨by simp [wB,rF],fun f h=>by cases h⟩
 | f::r,a,h=>by
   rw [wB] at h ⊢
   by_cases q:(textF f).2≠0
   · rw [if_pos q] at h;exact absurd h q
   rw [if_neg q] at h ⊢;obtain⟨h1,h2⟩:=zaH r _ h
   refine⟨by rw [h1];simp [rF],fun g hg=> ?_⟩
   rcases List.mem_cons.1 hg with rfl|hg
   · exact Decidable.not_not.1 q
   · exact h2 g hg
theorem Vb (b:Str): ∀ (l:List Prt) (a:Str),(wV b l a).2=0→wV b l a=(a++([45,45]++b++tailW b l),0)∧∀ p ∈ l,PkOk b p
 |[],a,_=>⟨by simp [wV,tailW],fun f h=>by cases h⟩
 | p::r,a,h=>by
   rw [wV] at h ⊢
   by_cases q1:Us b p=true
   · rw [if_pos q1] at h;cases h
   rw [if_neg q1] at h ⊢
   by_cases q2:(xJ p).2≠0
   · rw [if_pos q2] at h;exact absurd h q2
   rw [if_neg q2] at h ⊢
   by_cases q3:(wB (xJ p).1 (a++([45,45]++b++[13,10]))).2≠0
   · rw [if_pos q3] at h;exact absurd h q3
   rw [if_neg q3] at h ⊢;obtain⟨h1,h2⟩:=zaH _ _ (Decidable.not_not.1 q3);obtain⟨h3,h4⟩:=Vb b r _ h
   refine⟨by rw [h3,h1];simp [tailW,zN],fun g hg=> ?_⟩
   rcases List.mem_cons.1 hg with rfl|hg
   · exact⟨by cases h:Us b g with|false=>rfl|true=>exact absurd h q1,Decidable.not_not.1 q2,h2⟩
   · exact h4 g hg
theorem QZ (b:Str): ∀ (l:List Prt) (a:Str),(wV b l a).2≠0→(wV b l a).1=[]
 |[],a,h=>absurd rfl h
 | p::r,a,h=>by
   rw [wV] at h ⊢
   by_cases q1:Us b p=true
   · rw [if_pos q1]
   rw [if_neg q1] at h ⊢
   by_cases q2:(xJ p).2≠0
   · rw [if_pos q2]
   rw [if_neg q2] at h ⊢
   by_cases q3:(wB (xJ p).1 (a++([45,45]++b++[13,10]))).2≠0
   · rw [if_pos q3]
   rw [if_neg q3] at h ⊢;exact QZ b r _ h
theorem zi6 {b:Str} {l:List Prt} (h:(xX b l).2≠0):(xX b l).1=[]:=by
 unfold xX at h ⊢
 split at h
 · rename_i q;rw [if_pos q]
 · rename_i q;rw [if_neg q]
   split at h
   · rename_i q;rw [if_pos q]
   · rename_i q;rw [if_neg q];exact QZ b l [] h
def evsW:List Prt→List Evt
 |[]=>[evE]
 |p::r=>evP (bare p)::(bodF p.bytes++(evO::evsW r))
theorem zaX (p:Prt):(xJ p).1.length≤2:=by
 unfold xJ
 split
 · simp
 split
 · simp
 · split<;>simp
theorem TP {b:Str} (hb:wH b=true): ∀ (l:List Prt) (f k:Nat),(∀ p ∈ l,PkOk b p)→l.length<f→k+l.length≤12→X6 (zN b) f k (tailW b l)=(evsW l,0)
 | [],f+1,k,_,_,_=>by
   rw [tailW,X6,if_pos rfl,if_neg (by decide)];rfl
 | p ::r,f+1,k,hp,hf,hk=>by
   obtain⟨c1,c2,c3⟩:=hp p (List.mem_cons_self ..);rw [je] at hf hk
   have ih:=TP hb r f (k+1) (fun q hq=>hp q (List.mem_cons_of_mem _ hq)) (by omega) (by omega)
   rw [tailW,X6,if_neg (by decide)]
   rw [show ∀ y:Str,(13::10::y).dropWhile Ux=13::10::y from fun y=>by rw [List.dropWhile_cons_of_neg (by decide)]]
   rw [padG,if_neg (by decide),if_neg (by decide)]
   unfold hdG
   rw [zhj _ _ c3 (by have:=zaX p;omega)]
   simp only;unfold zi5;rw [zgo c2];simp only
   have hS:zW (zN b) (13::10::p.bytes) 0<0:=by
    have:=zjN (zN b) (13::10::p.bytes);have h1:Lib.contains (13::10::p.bytes) (zN b)=false:=c1;rw [h1] at this
    simp at this;exact this
   have hF:=Ug (r:=tailW b r) (show zN b≠[] by unfold zN;simp) (zgZ hb) (13::10::p.bytes) 0 (Int.le_refl _) hS
   rw [show 13::10::p.bytes++(zN b++tailW b r)=13::10::(p.bytes++(zN b++tailW b r)) from rfl,je,je] at hF
   rw [if_neg (by simp),if_neg (by omega),hF,if_neg (by omega)]
   have e1:((0:Int)+((p.bytes.length+1+1:Nat):Int)).toNat=p.bytes.length+2:=by omega
   have e2:p.bytes.length+2 - 2=p.bytes.length:=by omega
   have e3:p.bytes.length+2+(zN b).length - 2=p.bytes.length+(zN b).length:=by omega
   rw [e1,e2,e3,List.take_left,← List.drop_drop,List.drop_left,List.drop_left,ih];unfold preF
   simp [evsW]
theorem zgm {e:Evt} (h:e.kind=5) (z:List Prt):prtS z e=z++[e.part]:=by unfold prtS;rw [if_pos h]
theorem U4 {e:Evt} (h:e.kind=2) (z:List Prt) (p:Prt):prtS (z++[p]) e=z++[{ p with bytes:=p.bytes++e.bytes}]:=by
 unfold prtS;rw [if_neg (by omega),if_pos h];simp
theorem zan {e:Evt} (h:e.kind=2):prtS [] e=[]:=by unfold prtS;rw [if_neg (by omega),if_pos h];rfl
theorem zdk {e:Evt} (h:e.kind≠5) (k:e.kind≠2) (z:List Prt):prtS z e=z:=by unfold prtS;rw [if_neg h,if_neg k]
theorem RF: ∀ (l z:List Prt),(evsW l).foldl prtS z=z++l
 | [],z=>by
   show prtS z evE=_
   rw [zdk (by decide) (by decide),List.append_nil]
 | p ::r,z=>by
   rw [evsW,List.foldl_cons,List.foldl_append,List.foldl_cons]
   have e2:(bodF p.bytes).foldl prtS (z++[bare p])=z++[p]:=by
    unfold bodF
    split
    · rename_i h
      show z++[bare p]=_
      unfold bare;rw [← h]
    · show prtS (z++[bare p]) (evB p.bytes)=_
      rw [U4 rfl]
      simp [bare,evB]
   rw [zgm (show(evP (bare p)).kind=5 from rfl),show(evP (bare p)).part=bare p from rfl,e2,zdk (show evO.kind≠5 by decide) (show evO.kind≠2 by decide),RF r,jk]
   rfl
theorem Q9 (b:Str): ∀ l:List Prt,l.length≤(tailW b l).length
 |[]=>jL _
 | p::r=>by
   have:=Q9 b r;simp only [tailW,je,jg] at *;omega
theorem Yr {b:Str} {l:List Prt} (h:(xX b l).2=0):wH b=true∧zV (zQ (fm0 b) (xX b l).1).out=evsW l∧y9 (zQ (fm0 b) (xX b l).1)=0:=by
 unfold xX at h ⊢
 by_cases q1:wH b=false
 · rw [if_pos q1] at h;cases h
 rw [if_neg q1] at h ⊢
 by_cases q2:12<l.length
 · rw [if_pos q2] at h;cases h
 rw [if_neg q2] at h ⊢
 have hb:wH b=true:=by cases h:wH b with|true=>rfl|false=>exact absurd h q1
 obtain⟨h1,h2⟩:=Vb b l [] h;rw [h1];obtain⟨f1,f2⟩:=zjz b ([]++([45,45]++b++tailW b l))
 have hx:13::10::([]++([45,45]++b++tailW b l))=zN b++tailW b l:=by simp [zN]
 have hD:zho (zN b) ([]++([45,45]++b++tailW b l))=(evsW l,0):=by
  unfold zho;rw [hx]
  have hF:zW (zN b) (zN b++tailW b l) 0=0:=by
   have:=Ug (r:=tailW b l) (show zN b≠[] by unfold zN;simp) (zgZ hb) [] 0 (Int.le_refl _) (by
    rw [XV _ _ _ (by unfold zN;simp)];decide)
   simpa using this
  rw [hF,if_neg (by decide)]
  have hd:([]++([45,45]++b++tailW b l)).drop ((0:Int).toNat+(zN b).length - 2)=tailW b l:=by
   rw [show(0:Int).toNat+(zN b).length - 2=([45,45]++b).length by unfold zN;simp,List.nil_append]
   exact List.drop_left
  rw [hd]
  refine TP hb l _ 0 h2 ?_ (by omega)
  have:=Q9 b l;simp only [jg,List.nil_append];omega
 rw [f1,f2,hD];exact⟨hb,rfl,rfl⟩
theorem zgg {b:Str} {l:List Prt} (h:(xX b l).2=0):Ym b (xX b l).1=(l,0):=by
 obtain⟨h1,h2,h3⟩:=Yr h;unfold Ym
 rw [if_neg (by rw [h1];decide),h3,if_neg (fun q=>q rfl),h2,RF]
 rfl
theorem zi2 (q:List Prt) {x e:Evt} (hx:x.kind=2) (he:e.kind=2):prtS (prtS q x) e=prtS q (evB (x.bytes++e.bytes)):=by
 rcases List.eq_nil_or_concat q with rfl|⟨z,p,rfl⟩
 · rw [zan hx,zan he,zan rfl]
 · rw [List.concat_eq_append,U4 hx,U4 he,U4 rfl]
   simp [evB]
theorem zeZ (a:List Evt) (e:Evt) (z:List Prt):(wI a e).foldl prtS z=prtS (a.foldl prtS z) e:=by
 rcases List.eq_nil_or_concat a with rfl|⟨a,x,rfl⟩
 · rfl
 · rw [List.concat_eq_append,yj]
   split
   · rename_i h
     rw [List.foldl_append,List.foldl_append];exact(zi2 _ h.2 h.1).symm
   · rw [List.foldl_append];rfl
theorem U2: ∀ (o a:List Evt) (z:List Prt),(o.foldl wI a).foldl prtS z=o.foldl prtS (a.foldl prtS z)
 |[],a,z=>rfl
 |e::o,a,z=>by rw [List.foldl_cons,List.foldl_cons,U2 o,zeZ]
theorem zgk (o:List Evt) (z:List Prt):(zV o).foldl prtS z=o.foldl prtS z:=U2 o [] z
theorem zhQ {b t:Str} {l:List Prt} {L:List Str} {f:Fm} {al:List Evt} (h:FcI b t L L.length f al) (hf:L.flatten=t) (hl:(xX b l).2=0) (ht:(xX b l).1=t):al.foldl prtS []=l∧y9 f=0:=by
 obtain⟨h1,h2⟩:=zlo h hf;obtain⟨h3,h4,h5⟩:=Yr hl;rw [ht] at h4 h5
 refine⟨?_,by rw [zfz h1];exact h5⟩
 rw [← zgk,h2,h4,RF];rfl
end Go.Proofs.YtjdbannldbgpeaaGreatDoor
namespace Go.Proofs.YtjdbannldbgpeaaGreatDoor
open Go Go.Sep Go.Ab
set_option maxRecDepth 100000
def sizQ (p:Prt):Nat:=p.bytes.length+p.name.length+p.file.length+p.type.length
def sumQ:List Prt→Nat
 |[]=>0
 |f::r=>sizQ f+sumQ r
theorem zc6: ∀ {l:List Prt} {f:Prt},f ∈ l→sizQ f≤sumQ l
 | g::r,f,h=>by
   rcases List.mem_cons.1 h with rfl|h
   · exact Nat.le_add_right _ _
   · exact Nat.le_trans (zc6 h) (Nat.le_add_left _ _)
theorem zaa: ∀ {l:List Prt} {i:Nat} (d:Prt),i<l.length→sumQ (l.take (i+1))=sumQ (l.take i)+sizQ (l.getD i d)
 |g::r,0,d,_=>by simp [sumQ]
 | g::r,i+1,d,h=>by
   have:=zaa (l:=r) (i:=i) d (by simpa using h)
   rw [List.take_succ_cons,List.take_succ_cons,List.getD_cons_succ,sumQ,sumQ,this];omega
def TL (l:List Prt):Bool:=decide (40<l.length)||decide (6000<sumQ (l.take 50))
theorem zhk {l:List Prt} (h:TL l=false):l.length≤40∧∀ p ∈ l,(p.name.length≤10000∧p.file.length≤10000)∧p.type.length≤10000∧p.bytes.length≤10000:=by
 unfold TL at h;simp only [Bool.or_eq_false_iff,decide_eq_false_iff_not] at h
 rw [jl (by omega)] at h
 exact⟨by omega,fun f hf=>by have:=zc6 hf;unfold sizQ at this;omega⟩
def YH (I:Alg):KU
 |[.v (.one (.p (.list .prw l)))],[]=>(fun(l:List Prt)=>(some (.one ⟨I.hid (∀ f ∈ l,(f.name.length≤140737488355328∧f.file.length≤140737488355328)∧f.type.length≤140737488355328∧f.bytes.length≤140737488355328),(.ret (.v (.one (.p (.bool (I.hid (TL l))))))),[]⟩):Option CT)) l
 |_,_=>none
set_option maxHeartbeats 1000000 in
theorem zaY:zO Tryz.prog 5 (YH alg):=by
 intro args hp r h;unfold YH at h;split at h<;>cases h
 rename_i l
 revert l;intro(l:List Prt)
 simp only [CT.Good,zI];intro hneed;have hf:=hneed;generalize hr:TL l=r
 have hcl:(decide (40<l.length)||decide (6000<sumQ (l.take 50)))=r:=hr
 clear hr hneed
 refine spH Tryz.func5 (by kernel_rfl) { keep:=some [0,2,3,4]} [] (by kernel_rfl) ?_
 intro I X hI hX
 refine orcL ?_;go_invoke;refine orcS (by kernel_rfl) ?_
 simp only [zJ,Nat.reduceAdd]
 refine lpH hI [] hX [0,3,4] (fun(g:Nat × Int)=>match g with|(i,n)=>i≤l.length∧i≤50∧n=(sumQ (l.take i):Int)∧sumQ (l.take i)≤i * 562949953421312) (fun(g:Nat × Int)=>match g with|(i,n)=>⟨[(0,.v (.one (.p (.list .prw l)))),(3,.v (.one (.p (.int .i64 n)))),(4,.v (.one (.p (.int .i64 i))))],[],51,none⟩) (fun(g:Nat × Int)=>match g with|(i,n)=>l.length - i) (0,0) (by kernel_rfl) (by kernel_rfl) ?_ ?_
 · exact⟨jL _,jL _,by simp [sumQ],by simp [sumQ]⟩
 rintro⟨i,n⟩ ⟨h1,h2,h3,h4⟩ A hA
 have hx:i<l.length→l.getD i ⟨[],[],[],[]⟩ ∈ l:=fun h=>by rw [show l.getD i ⟨[],[],[],[]⟩=l[i] by simp [h]];exact List.getElem_mem h
 have hff:=fun h=>hf _ (hx h);have hst:=fun(h:i<l.length)=>zaa (l:=l) (i:=i) ⟨[],[],[],[]⟩ h;unfold sizQ at hst
 have hmo:=fun(h:i<l.length) (k:i<50) (n':Int) (e:n'=(sumQ (l.take (i+1)):Int))=>hA (i+1,n') ⟨by show i+1≤l.length;omega,by show i+1≤50;omega,e,by show sumQ (l.take (i+1))≤(i+1) * 562949953421312;have:=hff h;rw [hst h];omega⟩ (by show l.length - (i+1)<l.length - i;omega)
 simp only [Int.natCast_add,Int.natCast_one] at hmo
 have hend: ¬ (i<l.length∧i<50)→sumQ (l.take i)=sumQ (l.take 50):=fun h=>by
  by_cases k:i<50
  · rw [jl (show l.length≤i by omega),jl (show l.length≤50 by omega)]
  · rw [show i=50 by omega]
 have e1:(40:Int)<l.length→true=r:=fun h=>by rw [← hcl,decide_eq_true (show 40<l.length by omega)];rfl
 have e2: ¬ (i<l.length∧i<50)→¬ (40:Int)<l.length→decide (6000<n)=r:=fun h k=>by
  rw [← hcl,decide_eq_false (show ¬ 40<l.length by omega),Bool.false_or,h3,hend h,Bool.eq_iff_iff,decide_eq_true_iff,decide_eq_true_iff];omega
 clear hcl hend hA hx hf
 refine orcL ?_;go_invoke;refine orcS (by kernel_rfl) ?_
 simp only [zJ,Nat.reduceAdd];subst hI;simp only [nrmA,nrmB,nrlB,reduceCtorEq];generalize l.getD i ⟨[],[],[],[]⟩=f at *;generalize l.take i=li at *
 (repeat' (first|refine ja ?_ ?_|intro _))<;>first|omega|exact jb|exact jc ‹False›|skip
 all_goals first
  |(have:=hff (by omega);omega)
  |omega
  |exact e1 ‹_›
  |exact e2 (by omega) ‹_›
  |(refine hmo (by omega) (by omega) _ ?_;rw [hst (by omega),h3];omega)
def VW:Know Tryz.prog:=⟨5,YH,zaY⟩
def VU:Know Tryz.prog:=⟨5,fun I=>zT I (YH I),zi zaY⟩
end Go.Proofs.YtjdbannldbgpeaaGreatDoor
namespace Go.Proofs.YtjdbannldbgpeaaGreatDoor
open Go Go.Sep Go.Ab
set_option maxRecDepth 100000
theorem ze2 (l:List Fld):(xW l).1.bytes=[]:=by
 unfold xW zgp
 repeat' split
 all_goals rfl
def EvU (l:List Evt):Prop:=∀ e ∈ l,e.part.bytes=[]
theorem Uk {a b:List Evt} (h:EvU a) (k:EvU b):EvU (a++b):=fun e m=>(List.mem_append.1 m).elim (h e) (k e)
theorem zh2 {e:Evt} (h:e.part.bytes=[]):EvU [e]:=fun x m=>by rw [List.mem_singleton.1 m];exact h
theorem zh3 {o:List Evt} {e:Evt} (h:EvU (o++[e])):EvU (wI o e):=by
 rcases List.eq_nil_or_concat o with rfl|⟨z,x,rfl⟩
 · exact h
 · rw [List.concat_eq_append] at h ⊢
   rw [yj]
   split
   · exact Uk (fun y m=>h y (by simp [m])) (zh2 rfl)
   · exact h
theorem zep: ∀ (l o:List Evt),EvU (o++l)→EvU (l.foldl wI o)
 |[],o,h=>by rw [List.append_nil] at h;exact h
 | e::l,o,h=>by
   rw [List.foldl_cons];refine zep l _ ?_
   rw [show o++e::l=(o++[e])++l by simp] at h
   exact Uk (zh3 fun y m=>h y (List.mem_append_left _ m)) (fun y m=>h y (List.mem_append_right _ m))
theorem zmY {f:Fm} (h:EvU f.out) (c:UInt8):EvU (fmF f c).out:=by
 have h1: ∀ (o:List Evt) (e:Evt),EvU o→e.part.bytes=[]→EvU (o++[e]):=fun o e a b=>Uk a (zh2 b)
 have hb: ∀ g:Fm,EvU g.out→EvU (yL g).out:=fun g k=>by
  unfold yL
  split
  · exact h1 _ _ k rfl
  · split
    · exact h1 _ _ k rfl
    · exact h1 _ _ k (ze2 _)
 have hl: ∀ (g:Fm) (s:Str),EvU g.out→EvU (y8 g s).out:=fun g s k=>by
  unfold y8
  split
  · exact hb g k
  · split
    · exact h1 _ _ k rfl
    · split
      · exact h1 _ _ k rfl
      · exact k
 unfold fmF
 split
 · unfold yF
   split
   · show EvU (if f.pos=6∧yH f c≠[] then f.out++[evB (yH f c)] else f.out)
     split
     · exact h1 _ _ h rfl
     · exact h
   · show EvU (if f.pos=6 then(if yH f c≠[] then f.out++[evB (yH f c),evO] else f.out++[evO]) else f.out)
     split
     · split
       · rw [show f.out++[evB (yH f c),evO]=f.out++[evB (yH f c)]++[evO] by simp]
         exact h1 _ _ (h1 _ _ h rfl) rfl
       · exact h1 _ _ h rfl
     · exact h
 · split
   · unfold zZ
     split
     · exact h
     · split
       · exact h1 _ _ h rfl
       · split
         · exact h
         · split
           · exact h
           · exact h1 _ _ h rfl
   · split
     · split
       · exact h1 _ _ h rfl
       · exact h
     · split
       · split
         · exact h1 _ _ h rfl
         · split
           · exact hl _ _ h
           · exact h
       · exact h
theorem zhz: ∀ (b:Str) (f:Fm),EvU f.out→EvU (yS f b).out
 |[],f,h=>h
 |c::r,f,h=>zhz r (fmF f c) (zmY h c)
theorem zjH (f:Fm) (b:Str):EvU (zV (zQ f b).out):=zep _ [] (zhz b { f with out:=[]} (fun e m=>by cases m))
theorem zfx (e:Evt) (l:List Evt):zX (e::l)=e.bytes.length+zX l:=by simp [zX]
theorem U3: ∀ (o:List Evt) (z:List Prt) (B:Nat),(∀ p ∈ z,p.bytes.length≤B)→EvU o→∀ p ∈ o.foldl prtS z,p.bytes.length≤B+zX o
 |[],z,B,h,_,p,hp=>Nat.le_trans (h p hp) (Nat.le_add_right _ _)
 | e :: o, z,B,h,hu,p,hp=>by
   rw [List.foldl_cons] at hp;have:=U3 o (prtS z e) (B+e.bytes.length) (fun q hq=> ?_) (fun x m=>hu x (List.mem_cons_of_mem _ m)) p hp
   · rw [zfx];omega
   · by_cases h5:e.kind=5
     · rw [zgm h5] at hq
       rcases List.mem_append.1 hq with hq|hq
       · have:=h q hq;omega
       · rw [List.mem_singleton.1 hq,hu e (List.mem_cons_self ..)];exact jL _
     · by_cases h2:e.kind=2
       · rcases List.eq_nil_or_concat z with rfl|⟨y,x,rfl⟩
         · rw [zan h2] at hq;cases hq
         · rw [List.concat_eq_append] at hq h
           rw [U4 h2] at hq
           rcases List.mem_append.1 hq with hq|hq
           · have:=h q (List.mem_append_left _ hq);omega
           · rw [List.mem_singleton.1 hq]
             have:=h x (List.mem_append_right _ (List.mem_singleton.2 rfl));simp only [jg];omega
       · rw [zdk h5 h2] at hq
         have:=h q hq;omega
theorem zd9: ∀ fs:List Fld,(rF fs).length≤fs.length * 202
 |[]=>jK _
 | f::fs=>by
   have h1:=zd9 fs;have h2:=zc3 f;rw [rF,je,Nat.succ_mul];simp only [jg,je,jf];omega
theorem zc5 {b:Str} (hb:b.length≤70): ∀ l:List Prt,(tailW b l).length≤sumQ l+482 * l.length+4
 |[]=>by simp [tailW]
 | p::r=>by
   have h1:=zc5 hb r;have h2:=zd9 (xJ p).1;have h3:=zaX p;have h4:(xJ p).1.length * 202≤2 * 202:=Nat.mul_le_mul_right _ h3
   have h5:(zN b).length=4+b.length:=by unfold zN;simp;omega
   simp only [tailW,je,jg,sumQ,sizQ];omega
theorem zb3 {b:Str} {l:List Prt} (h:(xX b l).2=0) (hg:TL l=false):(xX b l).1.length≤20000∧l.length≤12:=by
 have hm:=(Yr h).1
 have hb:b.length≤70:=by unfold wH at hm;simp at hm;omega
 unfold TL at hg;simp only [Bool.or_eq_false_iff,decide_eq_false_iff_not] at hg
 rw [jl (show l.length≤50 by omega)] at hg
 unfold xX at h ⊢
 by_cases q1:wH b=false
 · rw [if_pos q1] at h;cases h
 rw [if_neg q1] at h ⊢
 by_cases q2:12<l.length
 · rw [if_pos q2] at h;cases h
 rw [if_neg q2] at h ⊢;obtain⟨h1,_⟩:=Vb b l [] h;rw [h1];have:=zc5 hb l;simp only [jg,je,jf];omega
structure GtI (E:List Evt) (al:List Evt) (k:Nat) (g:List Prt):Prop where
 le:k≤E.length
 eq:g=(al++E.take k).foldl prtS []
theorem gt_0 (E al:List Evt):GtI E al 0 (al.foldl prtS []):=⟨jL _,by rw [List.take_zero,List.append_nil]⟩
theorem gt_s {E al:List Evt} {k:Nat} {g:List Prt} (h:GtI E al k g) (d:Evt) (hk:k<E.length):GtI E al (k+1) (prtS g (E.getD k d)):=by
 refine⟨hk,?_⟩
 rw [jA hk,← jk,List.foldl_append,← h.eq,show E.getD k d=E[k] by simp [hk]]
 rfl
theorem zmt {E al:List Evt} {g:List Prt} (h:GtI E al E.length g):g=(al++E).foldl prtS []:=by
 have:=h.eq
 rwa [List.take_length] at this
theorem zms {E al:List Evt} {k:Nat} {g:List Prt} (h:GtI E al k g):g.length≤al.length+E.length:=by
 rw [h.eq];have:=zdl (al++E.take k) [];rw [jg,jq,jf] at this;omega
theorem zmV {E al:List Evt} {k:Nat} {g:List Prt} (h:GtI E al k g) (ha:EvU al) (he:EvU E): ∀ p ∈ g,p.bytes.length≤zX al+zX E:=by
 intro p hp;rw [h.eq] at hp
 have h1:=U3 (al++E.take k) [] 0 (fun p h=>by cases h) (Uk ha fun e m=>he e (List.mem_of_mem_take m)) p hp
 rw [xg] at h1
 have h2:zX E=zX (E.take k)+zX (E.drop k):=by rw [← xg,List.take_append_drop]
 omega
end Go.Proofs.YtjdbannldbgpeaaGreatDoor
namespace Go.Proofs.YtjdbannldbgpeaaGreatDoor
open Go Go.Sep Go.Ab
set_option maxRecDepth 100000
theorem zlq (s b:Str) (hneed:(s.length≤1000000∧b.length≤300000)∧wH s=true):Spc Tryz.prog 7 [.v (.one (.p (.str s))),.v (.one (.p (.list .byte b)))] [] (.ret (.tup [.one (.p (.list .prt ((Ym s b).1))),.one (.p (.int .i64 ((Ym s b).2)))])) []:=by
 obtain⟨⟨hs,hb⟩,hm⟩:=hneed
 have hl:s.length≤70:=by unfold wH at hm;simp at hm;omega
 have hI0:=zlm hl;have hg:=zkI s b ⟨0,⟨[],[],0,[],0⟩,[],⟨[],[],[],[]⟩,0⟩;have hle:=zhE (b:=b) hl
 have hN:fmN0 (fm0 s) b:=⟨0,hI0,by omega⟩
 generalize hr:Ym s b=r;unfold Ym at hr
 rw [hm,if_neg (by decide)] at hr
 refine spH Tryz.func7 (by kernel_rfl) { cfgF with rl:=[0],nr:=[8],keep:=some [0,1,4,5,6,7,8,10,11,12,23,24,25,30]} [sJ,sH,ug,uf,Ub,Ua] (by kernel_rfl) ?_
 intro I X hI hX
 refine orcL ?_;go_invoke;refine orcS (by kernel_rfl) ?_
 simp only [zJ,Nat.reduceAdd];generalize fm0 s=F0 at *;refine⟨?_,fun c=> ?_,fun _=>⟨?_,?_⟩⟩
 · subst hI;exact⟨by omega,hm⟩
 · subst hI;exact absurd c (by decide)
 · subst hI;exact hN
 rw [show I.hid F0=F0 by subst hI;rfl]
 rw [show I.hid (zQ F0 b)=zQ F0 b by subst hI;rfl]
 generalize zQ F0 b=F at *
 rw [show I.hid (zV F.out)=zV F.out by subst hI;rfl]
 generalize zV F.out=L at *
 refine lpH hI [sJ,sH,ug,uf,Ub,Ua] hX [6,8,23,24,25] (fun(g:Nat × List Prt)=>match g with|(i,o)=>i≤L.length∧o=(L.take i).foldl prtS []) (fun(g:Nat × List Prt)=>match g with|(i,o)=>⟨[(6,.v (.one (.ptr 0 0))),(8,.v (.one (.row 1))),(23,.v (.one (.row 2))),(24,.v (.one (.p (.int .i64 ((I.len (α:=Evt) L)))))),(25,.v (.one (.p (.int .i64 i))))],[.abs (.fm F),.row .prt 43 o,.row .evt 45 L],62,none⟩) (fun(g:Nat × List Prt)=>match g with|(i,o)=>L.length - i) (0,[]) (by kernel_rfl) (by kernel_rfl) ?_ ?_
 · exact⟨jL _,rfl⟩
 rintro⟨i,o⟩ ⟨h1,h2⟩ A hA;simp only at hA h1 h2
 refine orcL ?_;go_invoke;refine orcS (by kernel_rfl) ?_
 simp only [zJ,Nat.reduceAdd];subst hI;simp only [nrmA,nrmB,nrlB,reduceCtorEq];have hlo:=zdl (L.take i) [];rw [← h2,jq,jf] at hlo;have hb2:i<L.length→_→_:=fun h k=>zgl h hg k;have hs2:i<L.length→_:=fun h=>zam L ⟨0,⟨[],[],0,[],0⟩,[],⟨[],[],[],[]⟩,0⟩ h
 have hsum:i<L.length→(L.getD i ⟨0,⟨[],[],0,[],0⟩,[],⟨[],[],[],[]⟩,0⟩).bytes.length≤zX L:=fun h=>by
  refine YV ?_
  rw [show L.getD i ⟨0,⟨[],[],0,[],0⟩,[],⟨[],[],[],[]⟩,0⟩=L[i] by simp [h]]
  exact List.getElem_mem h
 rw [← h2] at hb2 hs2
 have hgo:i<L.length→_:=fun h=>hA (i+1,prtS o (L.getD i ⟨0,⟨[],[],0,[],0⟩,[],⟨[],[],[],[]⟩,0⟩)) ⟨by simp only;omega,by simp only;rw [hs2 h]⟩ (by simp only;omega)
 have hend: ¬ i<L.length→L.foldl prtS []=o:=fun h=>by rw [h2,jl (by omega)]
 clear hg hs2 hA;generalize L.getD i ⟨0,⟨[],[],0,[],0⟩,[],⟨[],[],[],[]⟩,0⟩=x at *;simp only [Int.natCast_add,Int.natCast_one] at hgo;refine⟨fun c=> ?_,fun c=> ?_⟩
 · have hgo:=hgo (by omega)
   have hb2:=hb2 (by omega)
   have hsum:=hsum (by omega)
   by_cases k5:x.kind=5
   · rw [prtS,if_pos k5] at hgo
     (repeat' (first|refine ja ?_ ?_|intro _))<;>first|omega|exact jb|exact jc ‹False›|skip
     all_goals first
      |omega
      |(simp only [jm];omega)
      |exact hgo
      |exact absurd k5 ‹_›
   · by_cases k2:x.kind=2
     · obtain⟨z,p,hz,hp,hxb⟩:=hb2 k2
       have hxb:0<x.bytes.length:=by cases hq:x.bytes with|nil=>exact absurd hq hxb|cons _ _=>simp
       subst hz
       rw [show prtS (z++[p]) x=z++[⟨p.name,p.file,p.type,x.bytes⟩] by unfold prtS;rw [if_neg k5,if_pos k2];simp [hp]] at hgo
       have e1:(((z++[p]).length:Int) - 1).toNat=z.length:=by rw [jg,jm];omega
       have e2:(z++[p]).getD z.length ⟨[],[],[],[]⟩=p:=by simp
       have e3: ∀ q,(z++[p]).set z.length q=z++[q]:=fun q=>by simp
       simp only [e1,e2,e3,hp];simp only [jg,jm,jf];clear e1 e2 e3;rw [jg,jm] at hlo
       (repeat' (first|refine ja ?_ ?_|intro _))<;>first|omega|exact jb|exact jc ‹False›|skip
       all_goals first
        |omega
        |exact hgo
        |exact absurd k2 ‹_›
        |exact absurd ‹x.kind=5› k5
     · rw [prtS,if_neg k5,if_neg k2] at hgo
       (repeat' (first|refine ja ?_ ?_|intro _))<;>first|omega|exact jb|exact jc ‹False›|skip
       all_goals first
        |omega
        |exact hgo
        |exact absurd ‹x.kind=5› k5
        |exact absurd ‹x.kind=2› k2
 · have he:=hend (by omega)
   rw [he] at hr;subst hr
   (repeat' (first|refine ja ?_ ?_|intro _))<;>first|omega|exact jb|exact jc ‹False›|skip
   all_goals first
    |omega
    |(rw [if_pos ‹¬ y9 F=0›];done)
    |(rw [if_neg (fun h=>h ‹y9 F=0›)];done)
end Go.Proofs.YtjdbannldbgpeaaGreatDoor
namespace Go.Proofs.YtjdbannldbgpeaaGreatDoor
open Go Go.Sep Go.Ab
set_option maxRecDepth 100000
theorem zlh (s:Str) (hneed:s.length≤140737488355328∧wH s=false):Spc Tryz.prog 9 [.v (.one (.p (.str s)))] [] (.ret (.tup [.one (.p (.val (.pointer none))),.one (.p (.int .i64 5))])) []:=zli s hneed
def YL (I:Alg):KU
 |[.v (.one (.p (.str s)))],[]=>(fun(s:Str)=>(some (.one ⟨I.hid (s.length≤140737488355328∧wH s=false),(.ret (.tup [.one (.p (.val (.pointer none))),.one (.p (.int .i64 5))])),[]⟩):Option CT)) s
 |_,_=>none
theorem zbd:zO Tryz.prog 9 (YL alg):=by
 intro args hp r h;unfold YL at h
 split at h
 · cases h;exact fun hn=>zlh _ hn
 · cases h
def zhC:Know Tryz.prog:=⟨9,YL,zbd⟩
def zhB:Know Tryz.prog:=⟨9,fun I=>zT I (YL I),zi zbd⟩
theorem zjJ (b:Str) (hneed:False):Spc Tryz.prog 11 [.v (.one (.p (.val (.pointer none)))),.v (.one (.p (.list .byte b)))] [] (.ret (.v (.one (.row 0)))) [.row .evt 45 (([]:List Evt))]:=hneed.elim
def Zh (I:Alg):KU
 |[.v (.one (.p (.val (.pointer none)))),.v (.one (.p (.list .byte b)))],[]=>(fun(b:Str)=>(some (.one ⟨I.hid (False),(.ret (.v (.one (.row 0)))),[.row .evt 45 (I.hid ([]:List Evt))]⟩):Option CT)) b
 |_,_=>none
theorem Si:zO Tryz.prog 11 (Zh alg):=by
 intro args hp r h;unfold Zh at h
 split at h
 · cases h;exact fun hn=>zjJ _ hn
 · cases h
def Zg:Know Tryz.prog:=⟨11,Zh,Si⟩
def Zf:Know Tryz.prog:=⟨11,fun I=>zT I (Zh I),zi Si⟩
theorem zlp (s b:Str) (hneed:(s.length≤1000000∧b.length≤300000)∧wH s=false):Spc Tryz.prog 7 [.v (.one (.p (.str s))),.v (.one (.p (.list .byte b)))] [] (.ret (.tup [.one (.p (.list .prt ((Ym s b).1))),.one (.p (.int .i64 ((Ym s b).2)))])) []:=by
 obtain⟨⟨hs,hb⟩,hm⟩:=hneed;generalize hr:Ym s b=r;unfold Ym at hr;rw [if_pos hm] at hr;subst hr
 refine spH Tryz.func7 (by kernel_rfl) { cfgF with rl:=[0],nr:=[8],keep:=some [0,1,4,5,6,7,8,10,11,12,23,24,25,30]} [sJ,sH,Zg,Zf,ug,uf,zhC,zhB] (by kernel_rfl) ?_
 intro I X hI hX
 refine orcL ?_;go_invoke;refine orcS (by kernel_rfl) ?_
 simp only [zJ,Nat.reduceAdd];subst hI;simp only [nrmA,nrmB,nrlB,reduceCtorEq]
 exact⟨⟨by omega,hm⟩,fun _=>trivial,by decide⟩
def WU (I:Alg):KU
 |[.v (.one (.p (.str s))),.v (.one (.p (.list .byte b)))],[]=>(fun(s b:Str)=>(some (.one ⟨I.hid (s.length≤1000000∧b.length≤300000),(.ret (.tup [.one (.p (.list .prt (I.hid ((Ym s b).1)))),.one (.p (.int .i64 (I.hid ((Ym s b).2))))])),[]⟩):Option CT)) s b
 |_,_=>none
theorem zei:zO Tryz.prog 7 (WU alg):=by
 intro args hp r h;unfold WU at h;split at h<;>cases h
 rename_i s b;simp only [CT.Good,zI];intro hneed
 cases hm:wH s with
 |true=>exact zlq s b ⟨hneed,hm⟩
 |false=>exact zlp s b ⟨hneed,hm⟩
def Qq:Know Tryz.prog:=⟨7,WU,zei⟩
def Qp:Know Tryz.prog:=⟨7,fun I=>zT I (WU I),zi zei⟩
end Go.Proofs.YtjdbannldbgpeaaGreatDoor
namespace Go.Proofs.YtjdbannldbgpeaaGreatDoor
open Go Go.Sep Go.Ab
set_option maxRecDepth 100000
end Go.Proofs.YtjdbannldbgpeaaGreatDoor
namespace Go.Proofs.YtjdbannldbgpeaaGreatDoor
open Go Go.Sep Go.Ab
set_option maxRecDepth 100000
def ptB (a b c d a2 b2 c2 d2:Str):Bool:=decide ((⟨a,b,c,d⟩:Prt)=⟨a2,b2,c2,d2⟩)
theorem zgj {x y:Prt}:ptB x.name x.file x.type x.bytes y.name y.file y.type y.bytes=true↔x=y:=by unfold ptB;exact decide_eq_true_iff
def Yf (I:Alg):KU
 |[.v (.agg [.p (.str a),.p (.str b),.p (.str c),.p (.nl d)]),.v (.agg [.p (.str a2),.p (.str b2),.p (.str c2),.p (.nl d2)])],[]=>(fun(a b c d a2 b2 c2 d2:Str)=>(some (.one ⟨I.hid (True),(.ret (.v (.one (.p (.bool (I.hid (ptB a b c d a2 b2 c2 d2))))))),[]⟩):Option CT)) a b c d a2 b2 c2 d2
 |_,_=>none
theorem zaj:zO Tryz.prog 17 (Yf alg):=by
 intro args hp r h;unfold Yf at h;split at h<;>cases h
 rename_i a b c d a2 b2 c2 d2;simp only [CT.Good,zI];intro _
 refine spH Tryz.func17 (by kernel_rfl) { keep:=some [0,1,2,3,4]} [qp,qo] (by kernel_rfl) ?_
 intro I X hI hX
 refine orcL ?_;go_invoke;refine orcS (by kernel_rfl) ?_
 simp only [zJ,Nat.reduceAdd];subst hI;simp only [nrmA,nrmB,nrlB,reduceCtorEq];unfold ptB
 rw [show decide ((⟨a,b,c,d⟩:Prt)=⟨a2,b2,c2,d2⟩)=(decide (a=a2)&&decide (b=b2)&&decide (c=c2)&&(d == d2)) by rw [Bool.eq_iff_iff];simp only [Prt.mk.injEq,decide_eq_true_iff,jJ,beq_iff_eq];constructor<;>(intro h;simp [h])]
 (repeat' (first|refine ja ?_ ?_|intro _))<;>first|omega|exact jb|exact jc ‹False›|skip
 all_goals first|(simp_all;done)|trace_state
def tX:Know Tryz.prog:=⟨17,Yf,zaj⟩
def tV:Know Tryz.prog:=⟨17,fun I=>zT I (Yf I),zi zaj⟩
theorem zen {α:Type} [DecidableEq α] {l m:List α} {i:Nat} (d:α) (h1:i<l.length) (h2:i<m.length):(decide (l.drop i=m.drop i))=(decide (l.getD i d=m.getD i d)&&decide (l.drop (i+1)=m.drop (i+1))):=by
 have e1:l.getD i d=l[i]:=by simp [h1]
 have e2:m.getD i d=m[i]:=by simp [h2]
 rw [e1,e2,Bool.eq_iff_iff,jJ,decide_eq_true_iff,decide_eq_true_iff,decide_eq_true_iff,jD h1,jD h2,List.cons.injEq]
end Go.Proofs.YtjdbannldbgpeaaGreatDoor
namespace Go.Proofs.YtjdbannldbgpeaaGreatDoor
open Go Go.Sep Go.Ab
set_option maxRecDepth 100000
def Ye (I:Alg):KU
 |[.v (.agg [.p (.str a),.p (.str b),.p (.str c),.p (.list .byte d)]),.v (.agg [.p (.str a2),.p (.str b2),.p (.str c2),.p (.nl d2)])],[]=>(fun(a b c d a2 b2 c2 d2:Str)=>(some (.one ⟨I.hid (True),(.ret (.v (.one (.p (.bool (I.hid (ptB a b c d a2 b2 c2 d2))))))),[]⟩):Option CT)) a b c d a2 b2 c2 d2
 |_,_=>none
theorem zai:zO Tryz.prog 17 (Ye alg):=by
 intro args hp r h;unfold Ye at h;split at h<;>cases h
 rename_i a b c d a2 b2 c2 d2;simp only [CT.Good,zI];intro _
 refine spH Tryz.func17 (by kernel_rfl) { keep:=some [0,1,2,3,4]} [qp,qo,tX,tV] (by kernel_rfl) ?_
 intro I X hI hX
 refine orcL ?_;go_invoke;refine orcS (by kernel_rfl) ?_
 simp only [zJ,Nat.reduceAdd];subst hI;simp only [nrmA,nrmB,nrlB,reduceCtorEq];unfold ptB
 rw [show decide ((⟨a,b,c,d⟩:Prt)=⟨a2,b2,c2,d2⟩)=(decide (a=a2)&&decide (b=b2)&&decide (c=c2)&&(d == d2)) by rw [Bool.eq_iff_iff];simp only [Prt.mk.injEq,decide_eq_true_iff,jJ,beq_iff_eq];constructor<;>(intro h;simp [h])]
 (repeat' (first|refine ja ?_ ?_|intro _))<;>first|omega|exact jb|exact jc ‹False›|skip
 all_goals first|(simp_all;done)|trace_state
def qm:Know Tryz.prog:=⟨17,Ye,zai⟩
def ql:Know Tryz.prog:=⟨17,fun I=>zT I (Ye I),zi zai⟩
def Yd (I:Alg):KU
 |[.v (.agg [.p (.str a),.p (.str b),.p (.str c),.p (.list .byte d)]),.v (.agg [.p (.str a2),.p (.str b2),.p (.str c2),.p (.list .byte d2)])],[]=>(fun(a b c d a2 b2 c2 d2:Str)=>(some (.one ⟨I.hid (True),(.ret (.v (.one (.p (.bool (I.hid (ptB a b c d a2 b2 c2 d2))))))),[]⟩):Option CT)) a b c d a2 b2 c2 d2
 |_,_=>none
theorem zah:zO Tryz.prog 17 (Yd alg):=by
 intro args hp r h;unfold Yd at h;split at h<;>cases h
 rename_i a b c d a2 b2 c2 d2;simp only [CT.Good,zI];intro _
 refine spH Tryz.func17 (by kernel_rfl) { keep:=some [0,1,2,3,4]} [qp,qo,tX,tV,qm,ql] (by kernel_rfl) ?_
 intro I X hI hX
 refine orcL ?_;go_invoke;refine orcS (by kernel_rfl) ?_
 simp only [zJ,Nat.reduceAdd];subst hI;simp only [nrmA,nrmB,nrlB,reduceCtorEq];unfold ptB
 rw [show decide ((⟨a,b,c,d⟩:Prt)=⟨a2,b2,c2,d2⟩)=(decide (a=a2)&&decide (b=b2)&&decide (c=c2)&&(d == d2)) by rw [Bool.eq_iff_iff];simp only [Prt.mk.injEq,decide_eq_true_iff,jJ,beq_iff_eq];constructor<;>(intro h;simp [h])]
 (repeat' (first|refine ja ?_ ?_|intro _))<;>first|omega|exact jb|exact jc ‹False›|skip
 all_goals first|(simp_all;done)|trace_state
def Yc:Know Tryz.prog:=⟨17,Yd,zah⟩
def Yb:Know Tryz.prog:=⟨17,fun I=>zT I (Yd I),zi zah⟩
def Ya (I:Alg):KU
 |[.v (.one (.p (.list .prw l))),.v (.one (.p (.list .prt m)))],[]=>(fun(l m:List Prt)=>(some (.one ⟨I.hid (l.length≤100000000∧m.length≤100000000),(.ret (.v (.one (.p (.bool (I.hid (decide (l=m)))))))),[]⟩):Option CT)) l m
 |_,_=>none
theorem zaf:zO Tryz.prog 8 (Ya alg):=by
 intro args hp r h;unfold Ya at h;split at h<;>cases h
 rename_i l m
 revert l m;intro(l:List Prt) (m:List Prt)
 simp only [CT.Good,zI];intro hneed;obtain⟨hl,hm⟩:=hneed;generalize hr:decide (l=m)=r
 refine spH Tryz.func8 (by kernel_rfl) { keep:=some [0,1,4,5]} [tX,tV,qm,ql,Yc,Yb] (by kernel_rfl) ?_
 intro I X hI hX
 refine orcL ?_;go_invoke;refine orcS (by kernel_rfl) ?_
 simp only [zJ,Nat.reduceAdd];refine⟨fun c1=> ?_,fun c1=> ?_⟩
 · subst hI
   simp only [nrmA,nrmB] at c1;simp only [nrmA,nrmB];rw [← hr]
   exact(decide_eq_false fun e=>c1 (by rw [e])).symm
 have hlm:l.length=m.length:=by
  subst hI;simp only [nrmA,nrmB] at c1;omega
 refine lpH hI [tX,tV,qm,ql,Yc,Yb] hX [0,1,5] (fun(i:Nat)=>i≤l.length∧r=decide (l.drop i=m.drop i)) (fun(i:Nat)=>⟨[(0,.v (.one (.p (.list .prw l)))),(1,.v (.one (.p (.list .prt m)))),(5,.v (.one (.p (.int .i64 i))))],[],27,none⟩) (fun(i:Nat)=>l.length - i) 0 (by kernel_rfl) (by kernel_rfl) ?_ ?_
 · exact⟨jL _,hr.symm⟩
 rintro i ⟨h1,h2⟩ A hA
 refine orcL ?_;go_invoke;refine orcS (by kernel_rfl) ?_
 simp only [zJ,Nat.reduceAdd];subst hI;simp only [nrmA,nrmB,nrlB,reduceCtorEq]
 have hd:i<l.length→_:=fun h=>zen (l:=l) (m:=m) (i:=i) ⟨[],[],[],[]⟩ h (by omega)
 have hend: ¬ i<l.length→r=true:=fun h=>by
  rw [h2,jE (by omega),jE (by omega)];simp
 generalize l.getD i ⟨[],[],[],[]⟩=x at *;generalize m.getD i ⟨[],[],[],[]⟩=y at *
 have hx: ¬ x=y→i<l.length→r=false:=fun h hi=>by rw [h2,hd hi,decide_eq_false h,Bool.false_and]
 have hy:x=y→i<l.length→r=decide (l.drop (i+1)=m.drop (i+1)):=fun h hi=>by rw [h2,hd hi,decide_eq_true h,Bool.true_and]
 have hbp:=zgj (x:=x) (y:=y);generalize ptB x.name x.file x.type x.bytes y.name y.file y.type y.bytes=B2 at *
 (repeat' (first|refine ja ?_ ?_|intro _))<;>first|omega|exact jb|exact jc ‹False›|skip
 all_goals first
  |omega
  |(exact(hx (by rintro rfl;simp_all) (by omega)).symm)
  |(rw [hx (by rintro rfl;simp_all) (by omega)])
  |exact hA (i+1) ⟨by omega,hy (by simp_all) (by omega)⟩ (by omega)
  |(rw [hend (by omega)])
def qj:Know Tryz.prog:=⟨8,Ya,zaf⟩
def qi:Know Tryz.prog:=⟨8,fun I=>zT I (Ya I),zi zaf⟩
def Z9 (I:Alg):KU
 |[.v (.one (.p (.list .prw l))),.v (.one (.p (.list .prw m)))],[]=>(fun(l m:List Prt)=>(some (.one ⟨I.hid (l.length≤100000000∧m.length≤100000000),(.ret (.v (.one (.p (.bool (I.hid (decide (l=m)))))))),[]⟩):Option CT)) l m
 |_,_=>none
theorem zae:zO Tryz.prog 8 (Z9 alg):=by
 intro args hp r h;unfold Z9 at h;split at h<;>cases h
 rename_i l m
 revert l m;intro(l:List Prt) (m:List Prt)
 simp only [CT.Good,zI];intro hneed;obtain⟨hl,hm⟩:=hneed;generalize hr:decide (l=m)=r
 refine spH Tryz.func8 (by kernel_rfl) { keep:=some [0,1,4,5]} [tX,tV,qm,ql,Yc,Yb,qj,qi] (by kernel_rfl) ?_
 intro I X hI hX
 refine orcL ?_;go_invoke;refine orcS (by kernel_rfl) ?_
 simp only [zJ,Nat.reduceAdd];refine⟨fun c1=> ?_,fun c1=> ?_⟩
 · subst hI
   simp only [nrmA,nrmB] at c1;simp only [nrmA,nrmB];rw [← hr]
   exact(decide_eq_false fun e=>c1 (by rw [e])).symm
 have hlm:l.length=m.length:=by
  subst hI;simp only [nrmA,nrmB] at c1;omega
 refine lpH hI [tX,tV,qm,ql,Yc,Yb,qj,qi] hX [0,1,5] (fun(i:Nat)=>i≤l.length∧r=decide (l.drop i=m.drop i)) (fun(i:Nat)=>⟨[(0,.v (.one (.p (.list .prw l)))),(1,.v (.one (.p (.list .prw m)))),(5,.v (.one (.p (.int .i64 i))))],[],27,none⟩) (fun(i:Nat)=>l.length - i) 0 (by kernel_rfl) (by kernel_rfl) ?_ ?_
 · exact⟨jL _,hr.symm⟩
 rintro i ⟨h1,h2⟩ A hA
 refine orcL ?_;go_invoke;refine orcS (by kernel_rfl) ?_
 simp only [zJ,Nat.reduceAdd];subst hI;simp only [nrmA,nrmB,nrlB,reduceCtorEq]
 have hd:i<l.length→_:=fun h=>zen (l:=l) (m:=m) (i:=i) ⟨[],[],[],[]⟩ h (by omega)
 have hend: ¬ i<l.length→r=true:=fun h=>by
  rw [h2,jE (by omega),jE (by omega)];simp
 generalize l.getD i ⟨[],[],[],[]⟩=x at *;generalize m.getD i ⟨[],[],[],[]⟩=y at *
 have hx: ¬ x=y→i<l.length→r=false:=fun h hi=>by rw [h2,hd hi,decide_eq_false h,Bool.false_and]
 have hy:x=y→i<l.length→r=decide (l.drop (i+1)=m.drop (i+1)):=fun h hi=>by rw [h2,hd hi,decide_eq_true h,Bool.true_and]
 have hbp:=zgj (x:=x) (y:=y);generalize ptB x.name x.file x.type x.bytes y.name y.file y.type y.bytes=B2 at *
 (repeat' (first|refine ja ?_ ?_|intro _))<;>first|omega|exact jb|exact jc ‹False›|skip
 all_goals first
  |omega
  |(exact(hx (by rintro rfl;simp_all) (by omega)).symm)
  |(rw [hx (by rintro rfl;simp_all) (by omega)])
  |exact hA (i+1) ⟨by omega,hy (by simp_all) (by omega)⟩ (by omega)
  |(rw [hend (by omega)])
def Vp:Know Tryz.prog:=⟨8,Z9,zae⟩
def Vo:Know Tryz.prog:=⟨8,fun I=>zT I (Z9 I),zi zae⟩
end Go.Proofs.YtjdbannldbgpeaaGreatDoor
namespace Go.Proofs
open Go.Shelf
def Tryz.lays186_ren:Go.Shelf.Ren:=⟨fun|186=>14|185=>24|187=>39|115=>40|253=>41|224=>42|254=>43|255=>61|291=>62|n=>n,fun|37=>26|4=>4|3=>3|0=>0|5=>5|46=>65|9=>9|146=>104|51=>103|n=>n,fun|1=>0|n=>n⟩
theorem Tryz.lays186:Go.Proofs.Lays.n186 Tryz.prog Tryz.lays186_ren:= {
 mixed:=by kernel_rfl
 f115:=Tryz.func40.trans (congrArg some (by kernel_rfl))
 f185:=Tryz.func24.trans (congrArg some (by kernel_rfl))
 f186:=Tryz.func14.trans (congrArg some (by kernel_rfl))
 f187:=Tryz.func39.trans (congrArg some (by kernel_rfl))
 f224:=Tryz.func42.trans (congrArg some (by kernel_rfl))
 f253:=Tryz.func41.trans (congrArg some (by kernel_rfl))
 f254:=Tryz.func43.trans (congrArg some (by kernel_rfl))
 f255:=Tryz.func61.trans (congrArg some (by kernel_rfl))
 f291:=Tryz.func62.trans (congrArg some (by kernel_rfl))
 t0:=Tryz.underlying0
 a0:=Tryz.isAgg0
 z0:=Tryz.sizeOf0
 v0:=Tryz.zeroValue0
 t3:=Tryz.underlying3
 a3:=Tryz.isAgg3
 z3:=Tryz.sizeOf3
 v3:=Tryz.zeroValue3
 t4:=Tryz.underlying4
 a4:=Tryz.isAgg4
 z4:=Tryz.sizeOf4
 v4:=Tryz.zeroValue4
 t5:=Tryz.underlying5
 a5:=Tryz.isAgg5
 z5:=Tryz.sizeOf5
 v5:=Tryz.zeroValue5
 t9:=Tryz.underlying9
 a9:=Tryz.isAgg9
 z9:=Tryz.sizeOf9
 v9:=Tryz.zeroValue9
 t37:=Tryz.underlying26
 a37:=Tryz.isAgg26
 z37:=Tryz.sizeOf26
 v37:=Tryz.zeroValue26
 t46:=Tryz.underlying65
 a46:=Tryz.isAgg65
 z46:=Tryz.sizeOf65
 v46:=Tryz.zeroValue65
 t51:=Tryz.underlying103
 a51:=Tryz.isAgg103
 z51:=Tryz.sizeOf103
 v51:=Tryz.zeroValue103
 t146:=Tryz.underlying104
 a146:=Tryz.isAgg104
 z146:=Tryz.sizeOf104
 v146:=Tryz.zeroValue104
 g1:=by kernel_rfl}
open Go.Proofs Go.RowKit Go.Lib in
theorem Tryz.bytes_Contains_at (a1 a2:Addr) (n c1 k c2:Nat) (xs ys:List Int) (m:Int) (w:World) (hx:xs.length=n) (hy:ys.length=k) (hr1: ∀ x ∈ xs,0≤x∧x<256) (hr2: ∀ y ∈ ys,0≤y∧y<256) (hc1: ∀ i,i<n→w.cell? (a1.add i)=some (.int .u8 (xs.getD i 0))) (hc2: ∀ i,i<k→w.cell? (a2.add i)=some (.int .u8 (ys.getD i 0))) (hcap:n≤c1) (hs:n<4294967281) (hk:k≤9223372036854775807) (hm:w.cell? ⟨0,0,none⟩=some (.int .i64 m)):
 Calls Tryz.prog 14 #[.slice (some a1) n c1,.slice (some a2) k c2] w fun e w'=>e=.returned (.bool (Lib.contains (Lib.bytesOf xs) (Lib.bytesOf ys)))∧∃ q,w'=w.drewN q:=Any.bytes_Contains_at Tryz.lays186 a1 a2 n c1 k c2 xs ys m w hx hy hr1 hr2 hc1 hc2 hcap hs hk hm
end Go.Proofs
namespace Go.Ab
open Go Go.Sep
variable [Facts]
theorem Spc.zgN {Pr:Program} {f:Nat} {args:List D} {hp:List HO} {d:D} (hf: ∃ fn,Pr.funcs[f]? =some fn∧(fn.name == "runtime.NumGoroutine")=false∧fn.body.isNone=false)
  (h: ∀ (S:Frz) (bs:List Value) (w:World) (vs:List Value),S.on w→MDs S bs args vs→∃ v,MD S bs d v∧Calls Pr f vs.toArray w fun e w'=>e=.returned v∧RowKit.Below w.heap.size w w'):Spc Pr f args hp (.ret d) hp:=by
 refine⟨hf,fun S K fr w vs hH hM hA=> ?_⟩;obtain⟨v,hv,hc⟩:=h S _ w vs (At.frz hA) hM;refine hc.mono fun e w' he=> ?_;obtain⟨he,hb⟩:=he;subst he;exact⟨S,K,Frz.le.refl S,Ext.refl _,hH,hA.keep (Uy hb),hv⟩
theorem SL {S:Frz} {w:World} (hS:S.on w) {x:Str} {v:Value} (h:MP S (.list .byte x) v) (hx:x≠[]):
  ∃ a cap,v=.slice (some a) x.length cap∧x.length≤cap∧∀ i,i<x.length→w.cell? (a.add i)=some (.int .u8 ((Lib.numsL x).getD i 0)):=by
 cases h with
 | list _ _ ao cap vs hlen hr hxs=>
   obtain⟨ao',cap',e,h1,h2,h3,h4,h5⟩:=hr w hS;cases e
   have hl:vs.length=x.length:=by simpa [U.size] using hlen
   have hv: ∀ i (hi:i<x.length),vs[i]? =some (.int .u8 ((x[i].toNat:Nat):Int)):=fun i hi=>by
    have hi':i<vs.length:=by omega
    have h:=hxs i x[i] 0 (.int .u8 ((x[i].toNat:Nat):Int)) vs[i] (ji hi) rfl (by simp [U.size])
    rw [ji hi'];generalize vs[i]=z at h;cases h;rfl
   have hp:0<x.length:=List.length_pos_iff.2 hx;obtain⟨a,rfl,hsp⟩:=(h5 0 _ (hv 0 hp)).1;refine⟨a,cap,rfl,h1,fun i hi=> ?_⟩;rw [qJ hsp,(h5 i _ (hv i hi)).2]
   simp [Lib.numsL,hi]
theorem Tf (x:Str): ∀ n ∈ Lib.numsL x,0≤n∧n<256:=fun n h=>by
 obtain⟨c,_,rfl⟩:=List.mem_map.1 h;have:=c.toNat_lt;omega
end Go.Ab
namespace Go.Proofs.YtjdbannldbgpeaaGreatDoor
open Go Go.Sep Go.Ab
set_option maxRecDepth 100000
def rH (I:Alg):KU
 |[.v (.one (.p (.list .byte x))),.v (.one (.p (.list .byte y)))],[]=>(fun(x y:Str)=>(some (.one ⟨I.hid ((x≠[]∧x.length≤1000000)∧y≠[]∧y.length≤1000000),(.ret (.v (.one (.p (.bool (I.hid (Lib.contains x y))))))),[]⟩):Option CT)) x y
 |_,_=>none
theorem Uo:zO Tryz.prog 14 (rH alg):=by
 intro args hp r h;unfold rH at h;split at h<;>cases h
 rename_i x y;simp only [CT.Good,zI];intro hneed;obtain⟨⟨hx,hxl⟩,hy,hyl⟩:=hneed
 refine Spc.zgN ⟨_,Tryz.func14,by kernel_rfl,by kernel_rfl⟩ fun S bs w vs hS hM=> ?_
 obtain⟨v,r,rfl⟩: ∃ v r,vs=v::r:=by cases vs with|nil=>exact hM.elim|cons v r=>exact⟨v,r,rfl⟩
 obtain⟨h1,hM⟩:=hM
 obtain⟨v2,r2,rfl⟩: ∃ v r2,r=v::r2:=by cases r with|nil=>exact hM.elim|cons v r=>exact⟨v,r,rfl⟩
 obtain⟨h2,hM⟩:=hM
 obtain rfl:r2=[]:=by cases r2 with|nil=>rfl|cons v r=>exact hM.elim
 obtain⟨m,hm⟩:=hS.facts;obtain⟨a1,c1,rfl,hc1,hb1⟩:=SL hS h1 hx;obtain⟨a2,c2,rfl,hc2,hb2⟩:=SL hS h2 hy;refine⟨.bool (Lib.contains x y),.bool _,?_⟩
 have hc:=Tryz.bytes_Contains_at a1 a2 x.length c1 y.length c2 (Lib.numsL x) (Lib.numsL y) m w (Lib.numsL_length x) (Lib.numsL_length y) (Tf x) (Tf y) hb1 hb2 hc1 (by omega) (by omega) hm
 rw [Lib.bytesOf_numsL,Lib.bytesOf_numsL] at hc;refine hc.mono fun e w' h=> ?_;obtain⟨he,q,rfl⟩:=h;exact⟨he,below_drewN (RowKit.Below.refl _ _) _⟩
def ZM:Know Tryz.prog:=⟨14,rH,Uo⟩
def ZL:Know Tryz.prog:=⟨14,fun I=>zT I (rH I),zi Uo⟩
end Go.Proofs.YtjdbannldbgpeaaGreatDoor
