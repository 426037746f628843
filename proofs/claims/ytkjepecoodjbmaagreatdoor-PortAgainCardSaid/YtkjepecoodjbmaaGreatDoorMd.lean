/- Texts of this proof, one behind the other: Num TusL RplL LnL LnR ChkL Evt ReqL ReqP SeekL SeekM Mrk FrmL Pfx TusA TusB TusC TusD TusE TusF GatL RplA FrmA FrmB LnA FrmC FrmD FldP FrmE EvJ FrmF FrmG FrmH FrmI GatP GatA. -/
import Derived.Lib.ItoaNum
import Derived.Test.YtkjepecoodjbmaaGreatDoorMc
set_option linter.all false
namespace Go.Proofs.YtkjepecoodjbmaaGreatDoor
open Go Go.Sep Go.Ab
set_option maxRecDepth 100000
def txtN (base:Nat):Nat→Nat→Str
 |0,_=>[]
 |f+1,n=>if n<base then [if n<10 then UInt8.ofNat (48+n) else UInt8.ofNat (87+n)] else txtN base f (n / base)++[if n % base<10 then UInt8.ofNat (48+n % base) else UInt8.ofNat (87+n % base)]
def dgN (d:Nat):UInt8:=if d<10 then UInt8.ofNat (48+d) else UInt8.ofNat (87+d)
theorem zjf {base f n:Nat} (h:n<base):txtN base (f+1) n=[dgN n]:=by rw [txtN,if_pos h];rfl
theorem zm8 {base f n:Nat} (h: ¬ n<base):txtN base (f+1) n=txtN base f (n / base)++[dgN (n % base)]:=by rw [txtN,if_neg h];rfl
theorem zjg (base:Nat): ∀ f n,(txtN base f n).length≤f
 |0,_=>jL _
 | f +1,n=>by
   rw [txtN]
   split
   · simp
   · have:=zjg base f (n / base)
     rw [jk];simp;omega
theorem zkF: ∀ (k n:Nat),n<10 ^ (k+1)→Lib.decDigits n=txtN 10 (k+1) n
 | 0,n,h=>by
   rw [Lib.decDigits,dif_pos (by omega),zjf (by omega)]
   unfold dgN
   rw [if_pos (by omega)]
 | k +1,n,h=>by
   rw [Lib.decDigits]
   by_cases hn:n<10
   · rw [dif_pos hn,zjf hn]
     unfold dgN;rw [if_pos hn]
   · rw [dif_neg hn,zm8 hn,zkF k (n / 10) (by rw [Nat.pow_succ] at h;omega)]
     unfold dgN
     rw [if_pos (Nat.mod_lt _ (by decide))]
def decS (n:Int):Str:=txtN 10 9 n.toNat
theorem zsg {n:Int} (h0:0≤n) (h1:n<1000000000):Lib.itoa n=decS n:=by
 unfold Lib.itoa decS
 rw [if_neg (by omega),zkF 8 n.toNat (by omega)]
theorem vz (n:Int):(decS n).length≤9:=zjg 10 9 _
def zen (I:Alg) (args:List D) (hp:List HO):Option CT:=match args,hp with
 |[.v (.one (.p (.int .i64 n)))],[]=>(fun(n:Int)=>(some (.one ⟨I.hid (0≤n∧n<1000000000),(.ret (.v (.one (.p (.str (I.hid (decS n))))))),[]⟩):Option CT)) n
 |_,_=>none
theorem zpg:zx Tryz.prog 103 (zen alg):=by
 intro args hp r h;unfold zen at h;split at h<;>cases h
 rename_i n;simp only [CT.Good,zi];intro hneed
 refine Spc.of_below ⟨_,Tryz.func103,by kernel_rfl,by kernel_rfl⟩ fun S bs w vs hW hM=> ?_
 obtain⟨v,r,rfl⟩: ∃ v r,vs=v::r:=by cases vs with|nil=>exact hM.elim|cons v r=>exact⟨v,r,rfl⟩
 obtain⟨h1,hM⟩:=hM
 obtain rfl:r=[]:=by cases r with|nil=>rfl|cons v r=>exact hM.elim
 cases h1 with
 | int _ _=>
   refine⟨.string (Sep.S (decS n)),.str _ (by have:=vz n;unfold maxLen;omega),?_⟩
   rw [← zsg hneed.1 hneed.2]
   refine(Tryz.strconv_Itoa n (by omega) (by omega) w (by first|exact hW|exact hW.1)).mono fun e w' h=> ?_
   obtain⟨he,k,os,rfl⟩:=h;refine⟨he,?_⟩
   exact⟨rfl,rfl,rfl,(show w.heap.size≤(w.heap++os).size by rw [Array.size_append];omega),fun j hj=>show(w.heap++os)[j]? =w.heap[j]? from Array.getElem?_append_left hj⟩
def qX:Know Tryz.prog:=⟨103,zen,zpg⟩
def qW:Know Tryz.prog:=⟨103,fun I=>zy I (zen I),zf zpg⟩
end Go.Proofs.YtkjepecoodjbmaaGreatDoor
namespace Go.Proofs.YtkjepecoodjbmaaGreatDoor
open Go Go.Sep Go.Ab
def rX:Str:=[47,102,105,108,101,115]
def xh:Str:=[47,102,105,108,101,115,47]
def verS:Str:=[49,46,48,46,48]
def zwe:Str:=[79,80,84,73,79,78,83]
def zbS:Str:=[80,79,83,84]
def zsl:Str:=[72,69,65,68]
def Zh:Str:=[80,65,84,67,72]
def zsX:Str:=[68,69,76,69,84,69]
def zhH:Str:=[116,117,115,45,114,101,115,117,109,97,98,108,101]
def yV:Str:=[117,112,108,111,97,100,45,108,101,110,103,116,104]
def zao:Str:=[117,112,108,111,97,100,45,100,101,102,101,114,45,108,101,110,103,116,104]
def zhE:Str:=[117,112,108,111,97,100,45,109,101,116,97,100,97,116,97]
def qQ:Str:=[117,112,108,111,97,100,45,111,102,102,115,101,116]
def ZM:Str:=[99,111,110,116,101,110,116,45,116,121,112,101]
def octS:Str:=[97,112,112,108,105,99,97,116,105,111,110,47,111,102,102,115,101,116,43,111,99,116,101,116,45,115,116,114,101,97,109]
def zvF:Str:=[84,117,115,45,82,101,115,117,109,97,98,108,101]
def zna:Str:=[84,117,115,45,86,101,114,115,105,111,110]
def zvG:Str:=[84,117,115,45,77,97,120,45,83,105,122,101]
def zvI:Str:=[84,117,115,45,69,120,116,101,110,115,105,111,110]
def zvH:Str:=[99,114,101,97,116,105,111,110,44,99,114,101,97,116,105,111,110,45,100,101,102,101,114,45,108,101,110,103,116,104,44,116,101,114,109,105,110,97,116,105,111,110]
def locN:Str:=[76,111,99,97,116,105,111,110]
def zan:Str:=[85,112,108,111,97,100,45,79,102,102,115,101,116]
def zvC:Str:=[85,112,108,111,97,100,45,76,101,110,103,116,104]
def zvD:Str:=[85,112,108,111,97,100,45,68,101,102,101,114,45,76,101,110,103,116,104]
def zlQ:Str:=[85,112,108,111,97,100,45,77,101,116,97,100,97,116,97]
def zwX:Str:=[67,97,99,104,101,45,67,111,110,116,114,111,108]
def zwi:Str:=[110,111,45,115,116,111,114,101]
def oneT (f:List Fld) (n:Str):Str × Int:=oneF (valsF f n)
def XF (f:List Fld) (n:Str):Bool:=decide ((oneT f n).2=10)||(decide ((oneT f n).2=0)&&(numA (oneT f n).1 10 9).2)
def zS (f:List Fld) (n:Str):Int:=if(oneT f n).2=10 then -1 else(numA (oneT f n).1 10 9).1
def VB (f:List Fld):Bool:=decide ((oneT f zao).2=10)||(decide ((oneT f zao).2=0)&&decide ((oneT f zao).1=[49]))
def zf9 (f:List Fld):Bool:=decide ((oneT f zao).2=0)
def WE (c:Int):Int:=if c=10 then 404 else if c=17∨c=19 then 409 else if c=4 then 413 else if c=8∨c=16 then 507 else 400
def wsS (q:Sto) (e:Ent):Sto:=⟨wrtL q.l q.n q.b e,wrtN q.l q.n q.b e,wrtB q.l q.n q.b e,q.s⟩
def wsC (q:Sto) (e:Ent):Int:=wrtC q.l q.n q.b e
def syS (q:Sto):Sto:= { q with s:=(q.b.length:Int)}
def creE (q:Sto) (n:Int) (t:Str):Ent:=⟨1,q.n+1,n,t⟩
structure TA where
 st:Int
 fs:List Fld
 q:Sto
def xX (q:Sto) (f:List Fld):TA:=
 if XF f yV=false then⟨400,[],q⟩
 else if VB f=false then⟨400,[],q⟩
 else if decide (0≤zS f yV)=zf9 f then⟨400,[],q⟩
 else if(oneT f zhE).2=9 then⟨400,[],q⟩
 else if wsC q (creE q (zS f yV) (oneT f zhE).1)≠0 then⟨WE (wsC q (creE q (zS f yV) (oneT f zhE).1)),[],q⟩
 else⟨201,[⟨locN,xh++decS (q.n+1)⟩],syS (wsS q (creE q (zS f yV) (oneT f zhE).1))⟩
def idB (t:Str):Bool:=Lib.hasPrefix t xh&&((numA (t.drop 7) 10 9).2&&decide (decS (numA (t.drop 7) 10 9).1=t.drop 7))
def idV (t:Str):Int:=(numA (t.drop 7) 10 9).1
def uplB (q:Sto) (t:Str):Bool:=idB t&&getB q.l (idV t)
def lenF (u:Upl):Fld:=if u.size<0 then⟨zvD,[49]⟩ else⟨zvC,decS u.size⟩
def zbN (u:Upl):List Fld:=[⟨zan,decS (u.bytes.length:Int)⟩,lenF u,⟨zwX,zwi⟩]++(if u.note=[] then [] else [⟨zlQ,u.note⟩])
def vG (q:Sto) (u:Upl) (f:List Fld) (body:Str):TA:=
 if(oneT f ZM).2=9 then⟨400,[],q⟩
 else if(wz (oneT f ZM).1).2≠0∨(wz (oneT f ZM).1).1.word≠octS then⟨415,[],q⟩
 else if XF f qQ=false then⟨400,[],q⟩
 else if zS f qQ<0 then⟨400,[],q⟩
 else if zS f qQ≠(u.bytes.length:Int) then⟨409,[],q⟩
 else if XF f yV=false then⟨400,[],q⟩
 else if 0≤zS f yV∧0≤u.size∧zS f yV≠u.size then⟨400,[],q⟩
 else if 0≤zS f yV∧u.size<0∧(2000<zS f yV∨zS f yV<zS f qQ+(body.length:Int)) then⟨413,[],q⟩
 else if UY q.b ((body.length:Int)+60)=false then⟨507,[],q⟩
 else if(if apG q.l u.id (zS f qQ) then 17 else wsC q (apE u.id body))≠0 then⟨WE (if apG q.l u.id (zS f qQ) then 17 else wsC q (apE u.id body)),[],q⟩
 else if 0≤zS f yV∧u.size<0 then
  if wsC (wsS q (apE u.id body)) ⟨3,u.id,zS f yV,[]⟩≠0 then⟨WE (wsC (wsS q (apE u.id body)) ⟨3,u.id,zS f yV,[]⟩),[],wsS q (apE u.id body)⟩
  else⟨204,[⟨zan,decS (zS f qQ+(body.length:Int))⟩],syS (wsS (wsS q (apE u.id body)) ⟨3,u.id,zS f yV,[]⟩)⟩
 else⟨204,[⟨zan,decS (zS f qQ+(body.length:Int))⟩],syS (wsS q (apE u.id body))⟩
def Um (q:Sto) (u:Upl):TA:=
 if wsC q ⟨4,u.id,0,[]⟩≠0 then⟨WE (wsC q ⟨4,u.id,0,[]⟩),[],q⟩ else⟨204,[],syS (wsS q ⟨4,u.id,0,[]⟩)⟩
def yC (q:Sto) (m t:Str) (f:List Fld) (body:Str):TA:=
 if t=rX∧m=zwe then⟨204,[⟨zna,verS⟩,⟨zvG,decS 2000⟩,⟨zvI,zvH⟩],q⟩
 else if(oneT f zhH).2=9 then⟨400,[],q⟩
 else if(oneT f zhH).1≠verS then⟨412,[⟨zna,verS⟩],q⟩
 else if t=rX then(if m≠zbS then⟨405,[],q⟩ else xX q f)
 else if uplB q t=false then⟨404,[],q⟩
 else if m=zsl then⟨200,zbN (getU q.l (idV t)),q⟩
 else if m=Zh then vG q (getU q.l (idV t)) f body
 else if m=zsX then Um q (getU q.l (idV t))
 else⟨405,[],q⟩
def resT:Fld:=⟨zvF,verS⟩
end Go.Proofs.YtkjepecoodjbmaaGreatDoor
namespace Go.Proofs.YtkjepecoodjbmaaGreatDoor
open Go Go.Sep Go.Ab
def UN (n:Int):Str:=
 if n=200 then [79,75]
 else if n=201 then [67,114,101,97,116,101,100]
 else if n=204 then [78,111,32,67,111,110,116,101,110,116]
 else if n=400 then [66,97,100,32,82,101,113,117,101,115,116]
 else if n=404 then [78,111,116,32,70,111,117,110,100]
 else if n=405 then [77,101,116,104,111,100,32,78,111,116,32,65,108,108,111,119,101,100]
 else if n=409 then [67,111,110,102,108,105,99,116]
 else if n=412 then [80,114,101,99,111,110,100,105,116,105,111,110,32,70,97,105,108,101,100]
 else if n=413 then [67,111,110,116,101,110,116,32,84,111,111,32,76,97,114,103,101]
 else if n=415 then [85,110,115,117,112,112,111,114,116,101,100,32,77,101,100,105,97,32,84,121,112,101]
 else if n=507 then [73,110,115,117,102,102,105,99,105,101,110,116,32,83,116,111,114,97,103,101]
 else []
def badF:List Fld→Int
 |[]=>0
 |f::l=>if(textF f).2=0 then badF l else(textF f).2
def tN:List Fld→Str
 |[]=>[]
 |f::l=>(textF f).1++[13,10]++tN l
theorem zpR (a b:List Fld):tN (a++b)=tN a++tN b:=by
 induction a with
 |nil=>rfl
 |cons f l ih=>simp only [List.cons_append,tN,ih,jo]
def zir (st:Int):Str:=[72,84,84,80,47,49,46,49,32]++decS st++[32]++UN st++[13,10]
def zhJ (n:Int):Str:=[67,111,110,116,101,110,116,45,76,101,110,103,116,104,58,32]++decS n++[13,10,13,10]
def zvn:Str:=[99,111,110,116,101,110,116,45,108,101,110,103,116,104]
def zb1 (st:Int) (fs:List Fld):Int:=
 if UN st=[] then 11 else if 16≤fs.length then 8 else if 0<(valsF fs zvn).length then 12 else badF fs
def writeT (st:Int) (fs:List Fld) (body:Str):Str:=
 if zb1 st fs=0 then zir st++tN fs++zhJ body.length++body else []
theorem zas (f:Fld):(textF f).1.length≤200:=by
 unfold textF
 split
 · simp
 split
 · simp
 split
 · simp
 · simp only [jk,jh,ji];omega
theorem Ud: ∀ l:List Fld,(tN l).length≤202 * l.length
 |[]=>by simp [tN]
 | f::l=>by
   have:=zas f;have:=Ud l;simp only [tN,jk,jh,ji];omega
theorem zq1 {n:Int} (h:UN n≠[]):n=200∨n=201∨n=204∨n=400∨n=404∨n=405∨n=409∨n=412∨n=413∨n=415∨n=507:=by
 refine Decidable.byContradiction fun hn=>h ?_;simp only [not_or] at hn
 simp [UN,hn]
theorem zak {n:Int} (h:UN n≠[]):200≤n∧n≤507∧(UN n).length≤30:=by
 rcases zq1 h with rfl|rfl|rfl|rfl|rfl|rfl|rfl|rfl|rfl|rfl|rfl<;>decide
end Go.Proofs.YtkjepecoodjbmaaGreatDoor
namespace Go.Proofs.YtkjepecoodjbmaaGreatDoor
open Go Go.Sep Go.Ab
def ln0:Ln:=⟨[],false,0⟩
def zvR (c:UInt8):Bool:=zfr (c.toNat:Int)
def lnF (s:Ln) (c:UInt8):Ln × Str × Bool × Int:=
 if s.code≠0 then(s,[],false,s.code)
 else if s.cr then(if c=10 then(⟨[],false,0⟩,s.b,true,0) else(⟨s.b,s.cr,2⟩,[],false,2))
 else if c=10 then(⟨s.b,s.cr,2⟩,[],false,2)
 else if c=13 then(⟨s.b,true,s.code⟩,[],false,0)
 else if zvR c=false then(⟨s.b,s.cr,3⟩,[],false,3)
 else if s.b.length=200 then(⟨s.b,s.cr,4⟩,[],false,4)
 else(⟨s.b++[c],s.cr,s.code⟩,[],false,0)
theorem Yt (s:Ln) (c:UInt8):(lnF s c).2.1.length≤s.b.length:=by
 unfold lnF
 repeat' split
 all_goals simp
theorem zsa (s:Ln) (c:UInt8):(lnF s c).1.b.length≤s.b.length+1:=by
 unfold lnF
 repeat' split
 all_goals simp
end Go.Proofs.YtkjepecoodjbmaaGreatDoor
namespace Go.Proofs.YtkjepecoodjbmaaGreatDoor
open Go Go.Sep Go.Ab
end Go.Proofs.YtkjepecoodjbmaaGreatDoor
namespace Go.Proofs.YtkjepecoodjbmaaGreatDoor
open Go Go.Sep Go.Ab
def Yh (line:Str):Int × Bool:=numA (Lib.trimS (cutB line 59).1 [32,9]) 16 6
theorem zaV: ∀ (s:Str) (n:Int),0≤n→0≤(numG 16 n s).1
 |[],n,h=>h
 | c::l,n,h=>by
   rw [numG]
   split
   · exact Int.le_refl _
   · exact zaV l _ (by omega)
theorem TS (t:Str):0≤(Yh t).1:=by
 unfold Yh numA
 split
 · exact Int.le_refl _
 · exact zaV _ _ (Int.le_refl _)
def ch0:Ch:=⟨ln0,0,0,0,0,0⟩
def chL (s:Ch) (t:Str):Ch × Int:=
 if s.pos=2 then(if t=[] then({ s with pos:=0},0) else(s,5))
 else if s.pos=0 then
  (if(Yh t).2=false then(s,7)
  else if 4000 - s.all<(Yh t).1 then(s,4)
  else if(Yh t).1=0 then({ s with pos:=3},0)
  else({ s with pos:=1,left:=(Yh t).1},0))
 else if s.pos=3 then
  (if t=[] then({ s with pos:=4},0)
  else if s.tails=16 then(s,8)
  else({ s with tails:=s.tails+1},(uP t).2))
 else(s,0)
def chF (s:Ch) (c:UInt8):Ch × Str × Bool × Int:=
 if s.code≠0 then(s,[],false,s.code)
 else if s.pos=4 then({ s with code:=18},[],false,18)
 else if s.pos=1 then({ s with left:=s.left - 1,all:=s.all+1,pos:=if s.left - 1=0 then 2 else 1},[c],false,0)
 else if(lnF s.ln c).2.2.2≠0 then({ s with ln:=(lnF s.ln c).1,code:=(lnF s.ln c).2.2.2},[],false,(lnF s.ln c).2.2.2)
 else if(lnF s.ln c).2.2.1=true then
  (if(chL { s with ln:=(lnF s.ln c).1} (lnF s.ln c).2.1).2≠0 then({ (chL { s with ln:=(lnF s.ln c).1} (lnF s.ln c).2.1).1 with code:=(chL { s with ln:=(lnF s.ln c).1} (lnF s.ln c).2.1).2},[],false,(chL { s with ln:=(lnF s.ln c).1} (lnF s.ln c).2.1).2)
  else((chL { s with ln:=(lnF s.ln c).1} (lnF s.ln c).2.1).1,[],decide ((chL { s with ln:=(lnF s.ln c).1} (lnF s.ln c).2.1).1.pos=4),0))
 else({ s with ln:=(lnF s.ln c).1},[],false,0)
inductive ChR where
 |more (out:Str) (held:Nat)
 |over (out rest:Str)
 |bad (out:Str) (e:Int) (rest:Str)
def ChR.pre (o:Str):ChR→ChR
 |.more p h=>.more (o++p) h
 |.over p r=>.over (o++p) r
 |.bad p e r=>.bad (o++p) e r
theorem zs4 {s:Ch} {c:UInt8}:(chF s c).2.1.length≤1∧((chF s c).2.2.2≠0→(chF s c).2.1=[])∧((chF s c).2.2.1=true→(chF s c).2.2.2=0∧(chF s c).2.1=[]∧(chF s c).1.pos=4∧(chF s c).1.code=0)∧((chF s c).2.2.2≠0→(chF s c).2.2.1=false∧(chF s c).1.code=(chF s c).2.2.2):=by
 unfold chF
 split
 · simp
 rename_i h0
 split
 · simp
 split
 · simp
 split
 · simp
 split
 · split
   · simp
   · refine⟨by simp,by simp,fun h=>⟨rfl,rfl,by simpa using h,?_⟩,fun h=>absurd rfl h⟩
     have: ∀ (x:Ch) (t:Str),x.code=0→(chL x t).1.code=0:=by
      intro x t hx;unfold chL
      split
      · split<;>exact hx
      split
      · split
        · exact hx
        split
        · exact hx
        split<;>exact hx
      split
      · split
        · exact hx
        split<;>exact hx
      · exact hx
     exact this _ _ (by simpa using h0)
 · simp
end Go.Proofs.YtkjepecoodjbmaaGreatDoor
namespace Go.Proofs.YtkjepecoodjbmaaGreatDoor
open Go Go.Sep Go.Ab
def hd0:Hd:=⟨[],[],0,[],0⟩
def prt0:Prt:=⟨[],[],[],[]⟩
def evH (h:Hd):Evt:=⟨1,h,[],prt0,0⟩
def evB (b:Str):Evt:=⟨2,hd0,b,prt0,0⟩
def evE:Evt:=⟨3,hd0,[],prt0,0⟩
def evF (c:Int):Evt:=⟨4,hd0,[],prt0,c⟩
def uS (out:List Evt) (e:Evt):List Evt:=
 match out.getLast? with
 |some x=>if e.kind=2∧x.kind=2 then out.dropLast++[evB (x.bytes++e.bytes)] else out++[e]
 |none=>out++[e]
def zZ (l:List Evt):List Evt:=l.foldl uS []
theorem xU (z:List Evt) (x e:Evt):uS (z++[x]) e=if e.kind=2∧x.kind=2 then z++[evB (x.bytes++e.bytes)] else z++[x]++[e]:=by
 unfold uS
 simp
theorem Yv (e:Evt):uS [] e=[e]:=rfl
end Go.Proofs.YtkjepecoodjbmaaGreatDoor
namespace Go.Proofs.YtkjepecoodjbmaaGreatDoor
open Go Go.Sep Go.Ab
def yQ:Str→List Str
 |[]=>[[]]
 |c::r=>if c=32 then []::yQ r else(match yQ r with|[]=>[[c]]|w::ws=>(c::w)::ws)
theorem zcb (s:Str):yQ s≠[]:=by
 cases s with
 |nil=>simp [yQ]
 | cons c r=>
   simp only [yQ]
   split
   · simp
   · split<;>simp
def VE:Str:=[72,84,84,80,47,49,46,49]
def za8:Str:=[72,84,84,80,47,49,46,48]
def begM (s:Str):Int × Hd:=
 match yQ s with
 | [a,b,c]=>
   if XH a=false then(6,hd0)
   else if b.head?≠some 47∨b.contains 9=true then(5,hd0)
   else if c=VE then(0,⟨a,b,1,[],0⟩)
   else if c=za8 then(0,⟨a,b,0,[],0⟩)
   else(11,⟨a,b,0,[],0⟩)
 |_=>(5,hd0)
def Rf:Str:=[104,111,115,116]
def YH:Str:=[99,111,110,116,101,110,116,45,108,101,110,103,116,104]
def zdB:Str:=[116,114,97,110,115,102,101,114,45,101,110,99,111,100,105,110,103]
def zac:Str:=[99,104,117,110,107,101,100]
def sizM (z0:Str) (n:Int):List Str→Int × Int
 |[]=>(n,0)
 |s::r=>if(numA s 10 9).2=false then(0,7) else if s≠z0 then(0,12) else sizM z0 (numA s 10 9).1 r
def lenM (mi:Int) (f:List Fld):Int × Int:=
 if valsF f zdB≠[] then
  if valsF f YH≠[]∨mi=0 then(0,12)
  else if 1<(valsF f zdB).length∨lowS ((valsF f zdB).getD 0 [])≠zac then(0,11)
  else(-1,0)
 else if(sizM ((valsF f YH).getD 0 []) 0 (valsF f YH)).2≠0 then(0,(sizM ((valsF f YH).getD 0 []) 0 (valsF f YH)).2)
 else if 4000<(sizM ((valsF f YH).getD 0 []) 0 (valsF f YH)).1 then(0,4)
 else((sizM ((valsF f YH).getD 0 []) 0 (valsF f YH)).1,0)
def zuP (mi:Int) (f:List Fld):Bool:=decide ((oneF (valsF f Rf)).2=9)||(decide ((oneF (valsF f Rf)).2=10)&&decide (mi=1))
def zxh (q:Rq) (e:Evt):Rq:= { q with out:=q.out++[e]}
def vT (q:Rq) (c:Int):Rq:= { q with pos:=4,out:=q.out++[evF c]}
def qj (q:Rq):Rq:= { q with out:=q.out++[evE],pos:=0,h:=hd0,own:=true}
def yR (q:Rq):Rq × Int:=
 if zuP q.h.minor q.h.fields=true then(q,13)
 else if(lenM q.h.minor q.h.fields).2≠0 then({ q with own:=false},(lenM q.h.minor q.h.fields).2)
 else if(lenM q.h.minor q.h.fields).1=0 then(qj { q with h:= { q.h with length:=0},own:=false,out:=q.out++[evH { q.h with length:=0}]},0)
 else if 0<(lenM q.h.minor q.h.fields).1 then({ q with h:= { q.h with length:=(lenM q.h.minor q.h.fields).1},own:=false,out:=q.out++[evH { q.h with length:=(lenM q.h.minor q.h.fields).1}],pos:=2,left:=(lenM q.h.minor q.h.fields).1},0)
 else({ q with h:= { q.h with length:=(lenM q.h.minor q.h.fields).1},own:=false,out:=q.out++[evH { q.h with length:=(lenM q.h.minor q.h.fields).1}],pos:=3,ck:=some ch0},0)
def zW (q:Rq) (s:Str):Rq × Int:=
 if q.pos=0 then
  if s=[] then(q,0)
  else if(begM s).1=0 then({ q with h:=(begM s).2,pos:=1},0)
  else if(begM s).1=11 then({ q with h:=(begM s).2},11)
  else(q,(begM s).1)
 else if s=[] then yR q
 else if q.h.fields.length=16 then(q,8)
 else({ q with h:= { q.h with fields:=q.h.fields++[(uP s).1]}},(uP s).2)
def ckOf (q:Rq):Ch:=match q.ck with|some c=>c|none=>ch0
def rqF (q:Rq) (c:UInt8):Rq:=
 if q.pos=2 then
  if q.left - 1=0 then qj { q with out:=q.out++[evB [c]],left:=0} else { q with out:=q.out++[evB [c]],left:=q.left - 1}
 else if q.pos=3 then
  if(chF (ckOf q) c).2.2.2≠0 then vT { q with ck:=some (chF (ckOf q) c).1} (chF (ckOf q) c).2.2.2
  else if(chF (ckOf q) c).2.2.1=true then qj { q with ck:=some (chF (ckOf q) c).1,out:=if(chF (ckOf q) c).2.1≠[] then q.out++[evB (chF (ckOf q) c).2.1] else q.out}
  else { q with ck:=some (chF (ckOf q) c).1,out:=if(chF (ckOf q) c).2.1≠[] then q.out++[evB (chF (ckOf q) c).2.1] else q.out}
 else if q.pos=0∨q.pos=1 then
  if(lnF q.ln c).2.2.2≠0 then vT { q with ln:=(lnF q.ln c).1} (lnF q.ln c).2.2.2
  else if(lnF q.ln c).2.2.1=true then
   if(zW { q with ln:=(lnF q.ln c).1} (lnF q.ln c).2.1).2≠0 then vT (zW { q with ln:=(lnF q.ln c).1} (lnF q.ln c).2.1).1 (zW { q with ln:=(lnF q.ln c).1} (lnF q.ln c).2.1).2
   else(zW { q with ln:=(lnF q.ln c).1} (lnF q.ln c).2.1).1
  else { q with ln:=(lnF q.ln c).1}
 else q
def rq0:Rq:=⟨ln0,0,hd0,0,none,true,[]⟩
def qi (q:Rq) (b:Str):Rq:=b.foldl rqF q
def zF (q:Rq) (b:Str):Rq:=qi { q with out:=[]} b
end Go.Proofs.YtkjepecoodjbmaaGreatDoor
namespace Go.Proofs.YtkjepecoodjbmaaGreatDoor
open Go Go.Sep Go.Ab
def zoo (q:Rq):Rq:= { q with out:=[]}
end Go.Proofs.YtkjepecoodjbmaaGreatDoor
namespace Go.Sep.P
theorem Z7 {a b s:List UInt8} (ha:a<:+s) (hb:b<:+s) (h:a.length≤b.length):a<:+b:=List.suffix_of_suffix_length_le ha hb h
structure Top (m s:List UInt8) (b n:Nat):Prop where
 le:n≤b
 suf:m.take n<:+s
 top: ∀ k,k≤b→m.take k<:+s→k≤n
theorem Top.eq {m s:List UInt8} {b n n':Nat} (h:Top m s b n) (h':Top m s b n'):n=n':=
 Nat.le_antisymm (h'.top n h.le h.suf) (h.top n' h'.le h'.suf)
def sS (m s:List UInt8):Nat→Nat
 |0=>0
 |k+1=>if m.take (k+1)<:+s then k+1 else sS m s k
theorem vK (m s:List UInt8): ∀ b,Top m s b (sS m s b)
 |0=>⟨jL _,by simp [sS],fun k hk _=>hk⟩
 | b + 1=>by
   unfold sS
   split
   · rename_i h;exact⟨jL _,h,fun k hk _=>hk⟩
   · rename_i h
     have ih:=vK m s b;refine⟨Nat.le_succ_of_le ih.le,ih.suf,fun k hk hs=> ?_⟩
     rcases Nat.lt_or_ge k (b+1) with h1|h1
     · exact ih.top k (by omega) hs
     · have:k=b+1:=by omega
       subst this;exact(h hs).elim
def held (m s:List UInt8):Nat:=sS m s (m.length - 1)
def yg (m:List UInt8) (i:Nat):Nat:=sS m (m.take i) (i - 1)
theorem qg {m:List UInt8} {i:Nat} (h:0<i):yg m i<i:=by
 have:=(vK m (m.take i) (i - 1)).le;unfold yg;omega
def fall (m:List UInt8) (c:UInt8):Nat→Nat→Nat
 |0,n=>n
 |f+1,n=>if n=0 then 0 else if m[n]? =some c then n else fall m c f (yg m n)
theorem Uh (m:List UInt8) (c:UInt8) (f:Nat):fall m c f 0=0:=by cases f<;>simp [fall]
theorem zhb (m:List UInt8) (c:UInt8): ∀ (f n:Nat),n≤f→∀ g,n≤g→fall m c f n=fall m c g n
 | 0,n,h,g,_=>by
   have:n=0:=by omega
   subst this;rw [Uh,Uh]
 | f + 1,n,h,g,hg=>by
   cases g with
   | zero=>
     have:n=0:=by omega
     subst this;rw [Uh,Uh]
   | succ g=>
     simp only [fall]
     split
     · rfl
     · split
       · rfl
       · rename_i h0 _
         have hb:=qg (m:=m) (i:=n) (by omega)
         exact zhb m c f _ (by omega) g (by omega)
structure zw6 (m:List UInt8) (c:UInt8) (n j:Nat):Prop where
 le:j≤n
 suf:m.take j<:+m.take n
 top: ∀ k,k≤n→m.take k<:+m.take n→m[k]? =some c→k≤j
 fits:j=0∨m[j]? =some c
theorem ziD (m:List UInt8) (c:UInt8) (hm: ∀ k,k≤m.length→(m.take k).length=k): ∀ (f n:Nat),n≤f→n≤m.length→zw6 m c n (fall m c f n)
 | 0,n,h,hn=>by
   have:n=0:=by omega
   subst this;exact⟨jL _,List.suffix_refl _,fun k hk _ _=>hk,.inl rfl⟩
 | f + 1,n,h,hn=>by
   simp only [fall]
   split
   · rename_i h0;subst h0;exact⟨jL _,List.suffix_refl _,fun k hk _ _=>hk,.inl rfl⟩
   · split
     · rename_i h0 h1;exact⟨jL _,List.suffix_refl _,fun k hk _ _=>hk,.inr h1⟩
     · rename_i h0 h1
       have hb:=qg (m:=m) (i:=n) (by omega)
       have ht:Top m (m.take n) (n - 1) (yg m n):=vK m (m.take n) (n - 1)
       have ih:=ziD m c hm f (yg m n) (by omega) (by omega)
       refine⟨by have:=ih.le;omega,ih.suf.trans ht.suf,fun k hk hs hc=> ?_,ih.fits⟩
       have hne:k≠n:=by rintro rfl;exact h1 hc
       have hkb:k≤yg m n:=ht.top k (by omega) hs
       refine ih.top k hkb (Z7 hs ht.suf ?_) hc
       rw [hm k (by omega),hm _ (by omega)]
       exact hkb
theorem take_len {m:List UInt8}: ∀ k,k≤m.length→(m.take k).length=k:=fun k hk=>by simp;omega
theorem Z5 {m s:List UInt8} {k:Nat} {c:UInt8} (hk:k<m.length):m.take (k+1)<:+s++[c]↔m.take k<:+s∧m[k]? =some c:=by
 rw [jB hk,jm hk];constructor
 · rintro⟨t,ht⟩
   rw [← jo] at ht;have:=List.append_inj' ht rfl
   exact⟨⟨t,this.1⟩,by simpa using this.2⟩
 · rintro⟨⟨t,ht⟩,hc⟩
   have hc':m[k]=c:=by simpa using hc
   exact⟨t,by rw [← jo,ht,hc']⟩
theorem Top.step {m s:List UInt8} {b n:Nat} {c:UInt8} (h:Top m s b n) (hb:b<m.length):
  (m[fall m c n n]? =some c→Top m (s++[c]) (b+1) (fall m c n n+1))∧(m[fall m c n n]? ≠some c→Top m (s++[c]) (b+1) 0∧fall m c n n=0):=by
 have hn:n≤m.length:=by have:=h.le;omega
 have hf:=ziD m c take_len n n (jL _) hn;generalize fall m c n n=j at hf
 have hjl:j<m.length:=by have:=hf.le;have:=h.le;omega
 have key: ∀ k,k+1≤b+1→m.take (k+1)<:+s++[c]→k≤j∧m[k]? =some c:=by
  intro k hk hs
  obtain⟨h1,h2⟩:=(Z5 (by omega)).1 hs
  have h3:=h.top k (by omega) h1
  have h4:m.take k<:+m.take n:=Z7 h1 h.suf (by rw [take_len k (by omega),take_len n hn];exact h3)
  exact⟨hf.top k h3 h4 h2,h2⟩
 constructor
 · intro hc
   refine⟨by have:=hf.le;have:=h.le;omega,(Z5 hjl).2 ⟨hf.suf.trans h.suf,hc⟩,fun k hk hs=> ?_⟩
   cases k with
   |zero=>omega
   |succ k=>have:=(key k hk hs).1;omega
 · intro hc
   have hj0:j=0:=hf.fits.resolve_right hc;subst hj0
   refine⟨⟨jM _,by simp,fun k hk hs=> ?_⟩,rfl⟩
   cases k with
   |zero=>omega
   | succ k=>
     obtain⟨h1,h2⟩:=key k hk hs
     have:k=0:=by omega
     subst this;exact(hc h2).elim
theorem ziY {m:List UInt8} {i:Nat} (hi:i<m.length) (h0:0<i):
  yg m (i+1)=(if m[fall m m[i] (yg m i) (yg m i)]? =some m[i] then fall m m[i] (yg m i) (yg m i)+1 else 0):=by
 have ht:=vK m (m.take i) (i - 1)
 have hs:=ht.step (c:=m[i]) (by omega)
 have e:m.take i++[m[i]]=m.take (i+1):=(jB hi).symm
 rw [e,show i - 1+1=i by omega] at hs
 have hnew:=vK m (m.take (i+1)) (i+1 - 1)
 change Top m (m.take (i+1)) i (yg m (i+1)) at hnew
 change(m[fall m m[i] (yg m i) (yg m i)]? =some m[i]→_)∧_ at hs
 split
 · rename_i hc;exact hnew.eq (hs.1 hc)
 · rename_i hc;exact hnew.eq (hs.2 hc).1
theorem zpW {m:List UInt8} {n k j:Nat} (hj:0<j) (hk:k+j=n) (hn:n≤m.length) (h:m.take k++m.take j=m.take n):
  m.take k++m.take (j - yg m j)=m.take (k+(j - yg m j))∧m.take (k+(j - yg m j))++m.take (yg m j)=m.take n:=by
 have hb:=qg (m:=m) hj;have ht:Top m (m.take j) (j - 1) (yg m j):=vK m (m.take j) (j - 1);generalize yg m j=b at hb ht;obtain⟨t,e⟩:=ht.suf;have hl:=congrArg List.length e
 rw [jk,take_len b (by omega),take_len j (by omega)] at hl
 have e2:t=m.take (j - b):=by
  have h1:(m.take j).take t.length=t:=by rw [← e];simp
  rw [List.take_take,show min t.length j=j - b by omega] at h1
  exact h1.symm
 subst e2
 have e3:m.take n=(m.take k++m.take (j - b))++m.take b:=by rw [jo,e,h]
 have e4:m.take (k+(j - b))=m.take k++m.take (j - b):=by
  have h1:(m.take n).take (k+(j - b))=m.take (k+(j - b)):=by rw [List.take_take,show min (k+(j - b)) n=k+(j - b) by omega]
  rw [← h1,e3]
  exact List.take_left' (by rw [jk,take_len k (by omega),take_len _ (by omega)])
 exact⟨e4.symm,by rw [e4,e3]⟩
theorem zha {m:List UInt8} {c:UInt8} {j:Nat} (h0:0<j) (h:m[j]? ≠some c):fall m c j j=fall m c (yg m j) (yg m j):=by
 have hb:=qg (m:=m) h0
 cases j with
 |zero=>omega
 | succ i=>
   rw [fall,if_neg (by omega),if_neg h]
   exact zhb m c _ _ (by omega) _ (jL _)
theorem YE {m:List UInt8} {c:UInt8} {j:Nat} (h:j=0∨m[j]? =some c):fall m c j j=j:=by
 cases j with
 |zero=>rfl
 |succ i=>rw [fall,if_neg (by omega),if_pos (h.resolve_left (by omega))]
def feed (m:List UInt8) (n:Nat) (c:UInt8):List UInt8 × Nat × Bool:=
 let j:=fall m c n n
 let out:=m.take (n - j)
 if m[j]? =some c then(if j+1<m.length then(out,j+1,false) else(out,0,true)) else(out++[c],0,false)
end Go.Sep.P
namespace Go.Proofs.YtkjepecoodjbmaaGreatDoor
open Go Go.Sep Go.Ab
set_option maxRecDepth 100000
set_option linter.unusedSimpArgs false
set_option linter.unusedVariables false
def cfgS:Cfg:= { sl:=[⟨310,0,.byte,some 5⟩,⟨310,1,.int,some 3⟩],nr:=[6]}
def Rk (m:Str):List Int:=(List.range (m.length+1)).map fun i=>((P.yg m i:Nat):Int)
theorem zqE (m:Str) (i:Int) (h0:0≤i) (h:i≤m.length):(Rk m).getD i.toNat 0=(P.yg m i.toNat:Nat):=by
 unfold Rk
 rw [jH,List.getElem?_map,List.getElem?_range (by omega)];rfl
theorem zqD (m:Str):(Rk m).length=m.length+1:=by simp [Rk]
def rY (m:Str) (n:Nat) (c:UInt8):Str × Nat × Bool:=if m=[] then([c],n,false) else P.feed m n c
def zey (I:Alg) (args:List D) (hp:List HO):Option CT:=match args,hp with
 |[.v (.one (.ptr 0 0)),.v (.one (.p (.int .u8 k)))],[.pack [.obj 310 [(.row 1),(.row 2),(.p (.int .i64 n))],.row .byte 5 m,.row .int 3 bs]]=>(fun(m:Str) (n:Int) (bs:List Int) (k:Int)=>(some (.one ⟨I.hid (bs=Rk m∧m.length≤1000000∧0≤n∧(m=[]∨n<m.length)∧0≤k∧k≤255),(.ret (.tup [(.one (.row 1)),(.one (.p (.bool (I.hid ((rY m n.toNat (UInt8.ofNat k.toNat)).2.2)))))])),[.pack [.obj 310 [(.row 1),(.row 2),(.p (.int .i64 (I.hid (((rY m n.toNat (UInt8.ofNat k.toNat)).2.1:Int)))))],.row .byte 5 m,.row .int 3 bs],.row .byte 5 (I.hid ((rY m n.toNat (UInt8.ofNat k.toNat)).1))]⟩):Option CT)) m n bs k
 |_,_=>none
theorem zpT:zx Tryz.prog 276 (zey alg):=by
 intro args hp r h;unfold zey at h;split at h<;>cases h
 rename_i k n m bs
 revert bs;intro(bs:List Int)
 simp only [CT.Good,zi];intro hneed;obtain⟨hbs,hl,hn0,hn,hk0,hk1⟩:=hneed;generalize hr:rY m n.toNat (UInt8.ofNat k.toNat)=r;obtain⟨out,n',fd⟩:=r
 refine spcG zh mixed Tryz.func276 (by kernel_rfl) { cfgS with keep:=some [0,1,4,5,6,7]} [] (by kernel_rfl) ?_
 intro I X hI hX
 refine orcL ?_;go_invoke;refine orcS (by kernel_rfl) ?_
 simp only [zq,Nat.reduceAdd];refine⟨fun h=> ?_,fun h=> ?_⟩
 · subst hI
   simp only [nrmA,nrmB] at h
   have:m=[]:=List.eq_nil_of_length_eq_zero (by omega)
   subst this;simp only [rY,if_true,Prod.mk.injEq] at hr;obtain⟨rfl,rfl,rfl⟩:=hr;simp only [nrmA,nrmB];refine⟨⟨hk0,hk1⟩,?_⟩;rw [Int.toNat_of_nonneg hn0]
 have hm:m≠[]:=by
  subst hI;simp only [nrmA,nrmB] at h;rintro rfl;simp at h
 have hm0:0<m.length:=by cases m<;>simp_all
 have hn:n<m.length:=hn.resolve_left hm;simp only [rY,if_neg hm] at hr
 refine zB hI zh mixed [qN] hX [0,1,6] (fun(p:Nat × Str)=>p.1≤n.toNat∧p.2.length+p.1=n.toNat∧P.fall m (UInt8.ofNat k.toNat) p.1 p.1=P.fall m (UInt8.ofNat k.toNat) n.toNat n.toNat∧p.2++m.take p.1=m.take n.toNat∧p.2=m.take p.2.length)
  (fun p=>⟨[(0,.v (.one (.ptr 0 0))),(1,.v (.one (.p (.int .u8 k)))),(6,.v (.one (.row 1)))],[.pack [.obj 310 [.row 1,.row 2,.p (.int .i64 p.1)],.row .byte 5 m,.row .int 3 bs],.row .byte 5 p.2],100,none⟩) (fun p=>p.1) (n.toNat,[])
  (by kernel_rfl) ?_ ⟨jL _,by simp,rfl,by simp,by simp⟩ ?_
 · simp only [Int.toNat_of_nonneg hn0];kernel_rfl
 rintro⟨j,o⟩ ⟨hjn,hoj,hfall,hcat,hpre⟩ A hA;simp only at hjn hoj hfall hcat hpre
 refine orcL ?_;go_invoke;refine orcS (by kernel_rfl) ?_
 simp only [zq,Nat.reduceAdd];subst hI hbs;simp only [nrmA,nrmB]
 have hb:=zqE m j (by omega) (by omega)
 simp only [jJ] at hb;have hbl:0<j→P.yg m j<j:=P.qg
 have hj:j<m.length:=by omega
 have hge:m.getD j 0=m[j]:=by simp [hj]
 rw [hb,zqD,hge]
 have hcc:(m[j].toNat:Int)=k↔m[j]? =some (UInt8.ofNat k.toNat):=by
  rw [jm hj,jw,← UInt8.toNat_inj,UInt8.toNat_ofNat'];omega
 simp only [hcc];have hfeed:=hr;simp only [P.feed] at hfeed;rw [← hfall] at hfeed
 refine⟨fun h0=>⟨by omega,by omega,fun hne=>⟨by omega,by omega,by omega,by omega,by simp only [jv];omega,?_⟩,fun heq=>⟨by omega,by omega,fun hne=>(hne heq).elim,fun _=>⟨by omega,fun hlt=> ?_,fun hlt=> ?_⟩⟩⟩,fun h0=>⟨by omega,by omega,fun hne=> ?_,fun heq=>⟨by omega,fun hlt=> ?_,fun hlt=> ?_⟩⟩⟩
 · obtain⟨h1,h2⟩:=P.zpW (m:=m) (n:=n.toNat) (k:=o.length) (j:=j) (by omega) (by omega) (by omega) (by rw [← hpre];exact hcat)
   have hx:(↑j - ↑(P.yg m j):Int).toNat=j - P.yg m j:=by omega
   have hbj:=hbl (by omega)
   rw [hx]
   refine hA (P.yg m j,o++m.take (j - P.yg m j)) ⟨by simp only;omega,?_,?_,?_,?_⟩ hbj
   · simp only [jk,jv];omega
   · rw [← hfall];exact(P.zha (by omega) hne).symm
   · simp only;rw [← h2,← h1,← hpre]
   · have:(o++m.take (j - P.yg m j)).length=o.length+(j - P.yg m j):=by simp only [jk,jv];omega
     simp only;rw [this,← h1,← hpre]
 · have hstop:=P.YE (c:=UInt8.ofNat k.toNat) (.inr heq)
   rw [hstop,if_pos heq,if_pos (by omega)] at hfeed
   simp only [Prod.mk.injEq] at hfeed;obtain⟨rfl,rfl,rfl⟩:=hfeed
   rw [show n.toNat - j=o.length by omega,← hpre]
   exact⟨rfl,rfl⟩
 · have hstop:=P.YE (c:=UInt8.ofNat k.toNat) (.inr heq)
   rw [hstop,if_pos heq,if_neg (by omega)] at hfeed
   simp only [Prod.mk.injEq] at hfeed;obtain⟨rfl,rfl,rfl⟩:=hfeed
   rw [show n.toNat - j=o.length by omega,← hpre]
   exact⟨rfl,rfl⟩
 all_goals
  have hj0:j=0:=by omega
  subst hj0;have hstop:=P.YE (m:=m) (c:=UInt8.ofNat k.toNat) (j:=0) (.inl rfl);rw [hstop] at hfeed
  rw [show n.toNat=o.length by omega,Nat.sub_zero,← hpre] at hfeed
 · rw [if_neg hne] at hfeed
   simp only [Prod.mk.injEq] at hfeed;obtain⟨rfl,rfl,rfl⟩:=hfeed
   exact⟨⟨hk0,hk1⟩,by simp only [jh,ji];omega,rfl,rfl⟩
 · rw [if_pos heq,if_pos (by omega)] at hfeed
   simp only [Prod.mk.injEq] at hfeed;obtain⟨rfl,rfl,rfl⟩:=hfeed;exact⟨rfl,rfl⟩
 · rw [if_pos heq,if_neg (by omega)] at hfeed
   simp only [Prod.mk.injEq] at hfeed;obtain⟨rfl,rfl,rfl⟩:=hfeed;exact⟨rfl,rfl⟩
def Tz:Know Tryz.prog:=⟨276,zey,zpT⟩
def Tv:Know Tryz.prog:=⟨276,fun I=>zy I (zey I),zf zpT⟩
def wL (m:Str) (i:Nat):List Int:=(List.range (m.length+1)).map fun q=>if q<i then((P.yg m q:Nat):Int) else 0
theorem ziX (m:Str) (i:Nat) (h:m.length<i):wL m i=Rk m:=by
 unfold wL Rk;refine List.map_congr_left fun q hq=> ?_
 rw [if_pos (by have:=List.mem_range.1 hq;omega)]
theorem ziT (m:Str):wL m 2=List.replicate (m.length+1) 0:=by
 unfold wL
 refine List.ext_getElem (by simp) fun q h1 h2=> ?_
 simp only [List.getElem_map,List.getElem_range,List.getElem_replicate]
 split
 · have:q=0∨q=1:=by omega
   rcases this with rfl|rfl
   · simp [P.yg,P.sS]
   · simp [P.yg,P.sS]
 · rfl
theorem ziV (m:Str) (i:Nat):(wL m i).length=m.length+1:=by simp [wL]
theorem ziW (m:Str) (i q:Nat) (h:q<i) (hm:q≤m.length):(wL m i).getD q 0=(P.yg m q:Nat):=by
 unfold wL
 rw [jH,List.getElem?_map,List.getElem?_range (by omega)]
 simp [h]
theorem ziU (m:Str) (i:Nat):(wL m i).set i ((P.yg m i:Nat):Int)=wL m (i+1):=by
 unfold wL
 refine List.ext_getElem (by simp) fun q h1 h2=> ?_
 simp only [List.getElem_set,List.getElem_map,List.getElem_range]
 by_cases h:i=q
 · subst h;simp
 · rw [if_neg h]
   by_cases hq:q<i
   · rw [if_pos hq,if_pos (by omega)]
   · rw [if_neg hq,if_neg (by omega)]
def zko (I:Alg) (args:List D) (hp:List HO):Option CT:=match args,hp with
 |[.v (.one (.p (.list .byte m)))],[]=>(fun(m:Str)=>(some (.one ⟨I.hid (m.length≤999999),(.ret (.v (.one (.ptr 0 0)))),[.pack [.obj 310 [(.row 1),(.row 2),(.p (.int .i64 0))],.row .byte 5 m,.row .int 3 (I.hid ((Rk m)))]]⟩):Option CT)) m
 |_,_=>none
theorem zts:zx Tryz.prog 275 (zko alg):=by
 intro args hp r h;unfold zko at h;split at h<;>cases h
 rename_i m;simp only [CT.Good,zi];intro hneed
 refine spcG zh mixed Tryz.func275 (by kernel_rfl) { cfgS with seam:=[2],keep:=some [0,2,3,4,5]} [ZO,qN] (by kernel_rfl) ?_
 intro I X hI hX
 refine orcL ?_;go_invoke;refine orcS (by kernel_rfl) ?_
 simp only [zq,Nat.reduceAdd]
 refine⟨?n1,⟨?n2,?n3,?n4,?n5,seam hI zh mixed [] hX [0,3] ⟨[(0,.v (.one (.p (.list .byte m)))),(3,.v (.one (.ptr 0 0)))],[.pack [.obj 310 [(.row 1),(.row 2),(.p (.int .i64 0))],.row .byte 5 m,.row .int 3 ((I.rep (α:=Int) (I.add (I.len (α:=UInt8) m) 1) (0:Int)))]],60,none⟩ (by kernel_rfl) ?on⟩,?n3,?n4,?n5,?n2,seam hI zh mixed [] hX [0,3] _ (by kernel_rfl) ?on⟩
 case on=>
  have hrep:(I.rep (α:=Int) (I.add (I.len (α:=UInt8) m) 1) (0:Int))=wL m 2:=by
   subst hI;simp only [nrmA,nrmB];rw [ziT];rfl
  rw [hrep];generalize hb2:wL m 2=b2
  refine orcL ?_;go_invoke;refine orcS (by kernel_rfl) ?_
  simp only [zq,Nat.reduceAdd]
  refine zB hI zh mixed [ZO,qN] hX [0,3,5,4] (fun(g:Nat × Nat × List Int)=>match g with|(i,k,bs)=>1≤i∧(i≤m.length∨i=1)∧k=P.yg m i∧bs=wL m (i+1)) (fun(g:Nat × Nat × List Int)=>match g with|(i,k,bs)=>⟨[(0,.v (.one (.p (.list .byte m)))),(3,.v (.one (.ptr 0 0))),(5,.v (.one (.p (.int .i64 i)))),(4,.v (.one (.p (.int .i64 k))))],[.pack [.obj 310 [(.row 1),(.row 2),(.p (.int .i64 0))],.row .byte 5 m,.row .int 3 bs]],60,none⟩) (fun(g:Nat × Nat × List Int)=>match g with|(i,k,bs)=>m.length - i) (1,0,b2) (by kernel_rfl) (by kernel_rfl) ?_ ?_
  · exact⟨jL _,.inr rfl,by simp [P.yg,P.sS],hb2.symm⟩
  rintro⟨i,k,bs⟩ ⟨hi,him,rfl,hbs⟩ A hA;simp only at hA;generalize hk:P.yg m i=k at hA
  refine orcL ?_;go_invoke;refine orcS (by kernel_rfl) ?_
  simp only [zq,Nat.reduceAdd];refine⟨fun hlt=> ?_,fun hlt=> ?_⟩
  · refine zB hI zh mixed [ZO,qN] hX [0,3,5,4] (fun(q:Nat)=>q≤k∧P.fall m (m.getD i 0) q q=P.fall m (m.getD i 0) k k) (fun(q:Nat)=>⟨[(0,.v (.one (.p (.list .byte m)))),(3,.v (.one (.ptr 0 0))),(5,.v (.one (.p (.int .i64 i)))),(4,.v (.one (.p (.int .i64 q))))],[.pack [.obj 310 [(.row 1),(.row 2),(.p (.int .i64 0))],.row .byte 5 m,.row .int 3 bs]],60,none⟩) (fun(q:Nat)=>q) k (by kernel_rfl) (by kernel_rfl) ?_ ?_
    · exact⟨jL _,rfl⟩
    rintro q ⟨hq,hfall⟩ B hB
    refine orcL ?_;go_invoke;refine orcS (by kernel_rfl) ?_
    simp only [zq,Nat.reduceAdd];subst hI hbs;simp only [nrmA,nrmB] at hlt
    have hil:i<m.length:=by omega
    have hkl:k<i:=by rw [← hk];exact P.qg (by omega)
    have hql:q<m.length:=by omega
    have hst:=P.ziY hil (by omega)
    have hgi:m.getD i 0=m[i]:=by simp [hil]
    have hgq:m.getD q 0=m[q]:=by simp [hql]
    have hg0:=ziW m (i+1) q (by omega) (by omega)
    have hbl:0<q→P.yg m q<q:=P.qg;rw [hk] at hst;rw [hgi] at hfall;rw [← hfall] at hst;simp only [nrmA,nrmB]
    rw [hgi,hgq,ziV,hg0,show((i:Int)+1).toNat=i+1 by omega]
    have hset:=ziU m (i+1)
    have hcc:m[i]=m[q]↔m[q]? =some m[i]:=by rw [jm hql];simp [eq_comm]
    have hA1:(q=0∨m[i]=m[q])→m[i]=m[q]→A ⟨[(0,.v (.one (.p (.list .byte m)))),(3,.v (.one (.ptr 0 0))),(5,.v (.one (.p (.int .i64 ((i:Int)+1))))),(4,.v (.one (.p (.int .i64 ((q:Int)+1)))))],[.pack [.obj 310 [(.row 1),(.row 2),(.p (.int .i64 0))],.row .byte 5 m,.row .int 3 (((wL m (i+1)).set (i+1) ((q:Int)+1)))]],60,none⟩:=by
     intro h1 h2
     rw [P.YE (by rw [← hcc];exact h1),if_pos (hcc.1 h2)] at hst
     have:=hA (i+1,q+1,wL m (i+2)) ⟨by omega,by omega,hst.symm,rfl⟩ (by simp only;omega)
     rw [hst] at hset;rw [← hset] at this;exact this
    have hA2:(q=0∨m[i]=m[q])→¬m[i]=m[q]→A ⟨[(0,.v (.one (.p (.list .byte m)))),(3,.v (.one (.ptr 0 0))),(5,.v (.one (.p (.int .i64 ((i:Int)+1))))),(4,.v (.one (.p (.int .i64 q))))],[.pack [.obj 310 [(.row 1),(.row 2),(.p (.int .i64 0))],.row .byte 5 m,.row .int 3 (((wL m (i+1)).set (i+1) (q:Int)))]],60,none⟩:=by
     intro h1 h2;obtain rfl:q=0:=h1.resolve_right h2;rw [P.YE (.inl rfl),if_neg (fun h=>h2 (hcc.2 h))] at hst
     have:=hA (i+1,0,wL m (i+2)) ⟨by omega,by omega,hst.symm,rfl⟩ (by simp only;omega)
     rw [hst] at hset;rw [← hset] at this;exact this
    (repeat' (first|refine ja ?_ ?_|intro _))<;>first|omega|exact jb|exact jc ‹False›|skip
    · refine hB (P.yg m q) ⟨by have:=hbl (by omega);omega,?_⟩ (hbl (by omega))
      rw [hgi,← P.zha (by omega) (fun h=>‹¬m[i]=m[q]› (hcc.2 h)),hfall]
    · exact hA1 (.inr ‹_›) ‹_›
    · exact hA2 (.inr ‹_›) ‹_›
    · exact hA1 (.inl (by omega)) ‹_›
    · exact hA2 (.inl (by omega)) ‹_›
  · subst hI hbs
    simp only [nrmA,nrmB] at hlt
    rw [ziX m _ (by omega)]
    exact⟨trivial,rfl⟩
 all_goals subst hI;simp only [nrmA,nrmB];try omega
def ztr:Know Tryz.prog:=⟨275,zko,zts⟩
def ztq:Know Tryz.prog:=⟨275,fun I=>zy I (zko I),zf zts⟩
end Go.Proofs.YtkjepecoodjbmaaGreatDoor
namespace Go.Proofs.YtkjepecoodjbmaaGreatDoor
open Go Go.Sep Go.Ab
set_option maxRecDepth 100000
def Vt (s:Str):Bool:= !decide (70<s.length)&&(XR s&&(decide (Lib.trimS s [32,9]=s)&&decide (s≠[])))
def WM (b:Str) (c:UInt8):Str:=
 if c=47∨c=92 then []
 else if c=9∨zfr (c.toNat:Int)=false∨c=34∨c=58 then b++[95]
 else if c=46∧b=[] then b
 else b++[c]
def zhS (s:Str):Str:=if(s.foldl WM []).take 40=[] then [102,105,108,101] else(s.foldl WM []).take 40
theorem znJ (s:Str) (i:Nat) (h:i<s.length):(s.take (i+1)).foldl WM []=WM ((s.take i).foldl WM []) (s.getD i 0):=by
 rw [jB h,List.foldl_append]
 simp [h]
theorem zro (s:Str): ∀ b:Str,(s.foldl WM b).length≤b.length+s.length:=by
 induction s with
 |nil=>intro b;simp
 | cons c r ih=>
   intro b;have h:=ih (WM b c)
   have h2:(WM b c).length≤b.length+1:=by
    unfold WM
    repeat' split
    all_goals simp
   rw [List.foldl_cons,jh];omega
theorem zlR (c:UInt8) (k:Nat) (h:k<256):(c.toNat:Int)=(k:Int)↔c=UInt8.ofNat k:=by
 constructor
 · intro e
   rw [← UInt8.toNat_inj,UInt8.toNat_ofNat',Nat.mod_eq_of_lt h];omega
 · intro e
   rw [e,UInt8.toNat_ofNat',Nat.mod_eq_of_lt h]
theorem zrp (b:Str) (c:UInt8):WM b c=if(c.toNat:Int)=47 then [] else if(c.toNat:Int)=92 then [] else if(c.toNat:Int)=9 then b++[95] else if zfr (c.toNat:Int)=false then b++[95] else if(c.toNat:Int)=34 then b++[95] else if(c.toNat:Int)=58 then b++[95] else if(c.toNat:Int)=46 then(if(b.length:Int)=0 then b else b++[c]) else b++[c]:=by
 have h0:(b.length:Int)=0↔b=[]:=by rw [← List.length_eq_zero_iff];omega
 have e1:(c.toNat:Int)=47↔c=47:=zlR c 47 (by decide)
 have e2:(c.toNat:Int)=92↔c=92:=zlR c 92 (by decide)
 have e3:(c.toNat:Int)=9↔c=9:=zlR c 9 (by decide)
 have e4:(c.toNat:Int)=34↔c=34:=zlR c 34 (by decide)
 have e5:(c.toNat:Int)=58↔c=58:=zlR c 58 (by decide)
 have e6:(c.toNat:Int)=46↔c=46:=zlR c 46 (by decide)
 simp only [e1,e2,e3,e4,e5,e6,h0];unfold WM;generalize zfr (c.toNat:Int)=k;clear e1 e2 e3 e4 e5 e6 h0
 repeat' split
 all_goals simp_all
def QV (I:Alg) (args:List D) (hp:List HO):Option CT:=match args,hp with
 |[.v (.one (.p (.str s)))],[]=>(fun(s:Str)=>(some (.one ⟨I.hid (s.length≤1000000),(.ret (.v (.one (.p (.str (I.hid ((zhS s)))))))),[]⟩):Option CT)) s
 |_,_=>none
theorem zk6:zx Tryz.prog 300 (QV alg):=by
 intro args hp r h;unfold QV at h;split at h<;>cases h
 rename_i s;simp only [CT.Good,zi];intro hneed
 refine spcG zh mixed Tryz.func300 (by kernel_rfl) { nr:=[3],keep:=some [0,2,3,4,5,7,8]} [sW,YN] (by kernel_rfl) ?_
 intro I X hI hX
 refine orcL ?_;go_invoke;refine orcS (by kernel_rfl) ?_
 simp only [zq,Nat.reduceAdd]
 refine zB hI zh mixed [sW,YN] hX [0,3,7,8] (fun(g:Nat × Str)=>match g with|(i,b)=>i≤s.length∧b=(s.take i).foldl WM []) (fun(g:Nat × Str)=>match g with|(i,b)=>⟨[(0,.v (.one (.p (.str s)))),(3,.v (.one (.row 0))),(7,.v (.one (.p (.int .i64 ((I.len (α:=UInt8) s)))))),(8,.v (.one (.p (.int .i64 i))))],[.row .byte 5 b],63,none⟩) (fun(g:Nat × Str)=>match g with|(i,b)=>s.length - i) (0,[]) (by kernel_rfl) (by kernel_rfl) ?_ ?_
 · exact⟨jM _,rfl⟩
 rintro⟨i,b⟩ ⟨h1,h2⟩ A hA;simp only at hA h1 h2
 refine orcL ?_;go_invoke;refine orcS (by kernel_rfl) ?_
 simp only [zq,Nat.reduceAdd];subst hI;simp only [nrmA,nrmB,nrlB,reduceCtorEq];have hs:=znJ s i;have hbl:=zro (s.take i) [];rw [← h2] at hs hbl;rw [jv,ji] at hbl
 have hA2:i<s.length→_:=fun h=>hA (i+1,WM b (s.getD i 0)) ⟨by simp only;omega,(hs h).symm⟩ (by simp only;omega)
 have l0:=(s.getD i 0).toNat_lt;rw [zrp] at hA2
 have hend: ¬ i<s.length→s.foldl WM []=b:=fun h=>by rw [h2,jq (by omega)]
 have hm: ¬ i<s.length→zhS s=if b.take 40=[] then [102,105,108,101] else b.take 40:=fun h=>by unfold zhS;rw [hend h]
 have hn:0<b.length→¬ b.take 40=[]:=fun h k=>by have:=congrArg List.length k;rw [jv,ji] at this;omega
 generalize s.getD i 0=c at *
 (repeat' (first|refine ja ?_ ?_|intro _))<;>first|omega|exact jb|exact jc ‹False›|skip
 all_goals first
  |omega
  |exact⟨by omega,by omega⟩
  |(simp only [jr];omega)
  |(rw [hm (by omega),if_neg (hn (by omega))];first|rfl|exact(jq (by omega)).symm)
  |(rw [hm (by omega),if_pos (by rw [List.eq_nil_of_length_eq_zero (show b.length=0 by omega)];rfl)])
  |(have h:=hA2 (by omega);(repeat(first|rw [if_pos (by first|omega|assumption)] at h|rw [if_neg (by first|omega|assumption|simpa using ‹_=true›)] at h));simp only [Int.natCast_add,Int.natCast_one] at h;exact h)
def zsK:Know Tryz.prog:=⟨300,QV,zk6⟩
def zsJ:Know Tryz.prog:=⟨300,fun I=>zy I (QV I),zf zk6⟩
def QY (I:Alg) (args:List D) (hp:List HO):Option CT:=match args,hp with
 |[.v (.one (.p (.str s)))],[]=>(fun(s:Str)=>(some (.one ⟨I.hid (s.length≤140737488355328),(.ret (.v (.one (.p (.bool (I.hid ((Vt s)))))))),[]⟩):Option CT)) s
 |_,_=>none
theorem zld:zx Tryz.prog 274 (QY alg):=by
 intro args hp r h;unfold QY at h;split at h<;>cases h
 rename_i s;simp only [CT.Good,zi];intro hneed
 refine spcG zh mixed Tryz.func274 (by kernel_rfl) { keep:=some [0,2]} [wW,wV,UD,UC] (by kernel_rfl) ?_
 intro I X hI hX
 refine orcL ?_;go_invoke;refine orcS (by kernel_rfl) ?_
 simp only [zq,Nat.reduceAdd];subst hI;simp only [nrmA,nrmB,nrlB,reduceCtorEq];unfold Vt
 have h70:(70<s.length)↔((70:Int)<(s.length:Int)):=by omega
 simp only [h70]
 (repeat' (first|refine ja ?_ ?_|intro _))<;>first|omega|exact jb|exact jc ‹False›|skip
 all_goals first
  |omega
  |(rw [decide_eq_false (by omega),‹XR s=true›,decide_eq_true ‹Lib.trimS s _=s›];cases s<;>simp)
  |(simp_all;done)
def zlc:Know Tryz.prog:=⟨274,QY,zld⟩
def zlb:Know Tryz.prog:=⟨274,fun I=>zy I (QY I),zf zld⟩
end Go.Proofs.YtkjepecoodjbmaaGreatDoor
namespace Go.Proofs.YtkjepecoodjbmaaGreatDoor
open Go Go.Sep Go.Ab
def pctM:Str→Option Str
 |[]=>some []
 | c ::r=>
   if c≠37 then(pctM r).map (c:: ·)
   else match r with
    |a::b::r'=>if hexK (a.toNat:Int)<0∨hexK (b.toNat:Int)<0 then none else(pctM r').map (UInt8.ofNat (16 * hexK (a.toNat:Int)+hexK (b.toNat:Int)).toNat:: ·)
    |_=>none
def utfS:Str:=[117,116,102,45,56,39,39]
def extM (s:Str):Option Str:=if s.length<7∨lowS (s.take 7)≠utfS then none else pctM (s.drop 7)
def qf:Str:=[99,111,110,116,101,110,116,45,100,105,115,112,111,115,105,116,105,111,110]
def zlp:Str:=[99,111,110,116,101,110,116,45,116,121,112,101]
def ztL:Str:=[102,111,114,109,45,100,97,116,97]
def zuC:Str:=[110,97,109,101]
def zsF:Str:=[102,105,108,101,110,97,109,101]
def zg6:Str:=[102,105,108,101,110,97,109,101,42]
def extV (s:Str):Str:=(extM s).getD []
def extB (s:Str):Bool:=(extM s).isSome
def zur (f x:Str × Bool):Str:=if x.2=true then zhS (extV x.1) else if f.2=true then zhS f.1 else []
def partT (t:Str × Int):Str:=if t.2=0 then t.1 else []
def zrY (a:Str × Int) (m:Med × Int) (n f x:Str × Bool) (t:Str × Int):Prt × Int:=
 if a.2≠0 then(prt0,a.2)
 else if m.2≠0 then(prt0,m.2)
 else if m.1.word≠ztL then(prt0,11)
 else if n.2=false then(prt0,6)
 else if x.2=true∧extB x.1=false then(prt0,5)
 else if t.2=9 then(prt0,9)
 else(⟨n.1,zur f x,partT t,[]⟩,0)
def Zy (l:List Fld):Prt × Int:=
 zrY (oneF (valsF l qf)) (wz (oneF (valsF l qf)).1) (getP (wz (oneF (valsF l qf)).1).1.params zuC) (getP (wz (oneF (valsF l qf)).1).1.params zsF) (getP (wz (oneF (valsF l qf)).1).1.params zg6) (oneF (valsF l zlp))
def evP (p:Prt):Evt:=⟨5,hd0,[],p,0⟩
def evO:Evt:=⟨6,hd0,[],prt0,0⟩
def xM (f:Fm) (c:Int):Fm:= { f with pos:=8,code:=c,out:=f.out++[evF c]}
def fmSk (f:Fm) (c:UInt8):Fm:= { f with held:=((rY f.mark f.held.toNat c).2.1:Int)}
def wZ (f:Fm):Fm:=
 if(Zy f.fields).2≠0 then xM f (Zy f.fields).2
 else if f.parts=12 then xM f 8
 else fmSk (fmSk { f with parts:=f.parts+1,pos:=6,out:=f.out++[evP (Zy f.fields).1],skip:=2} 13) 10
def tq (f:Fm) (s:Str):Fm:=
 if s=[] then wZ f
 else if f.fields.length=16 then xM f 8
 else if(uP s).2≠0 then xM f (uP s).2
 else { f with fields:=f.fields++[(uP s).1]}
def wS (f:Fm) (c:UInt8):Fm:=
 if f.pos=1∧c=45 then { f with pos:=2}
 else if f.pos=2∧c=45 then { f with pos:=7,out:=f.out++[evE]}
 else if f.pos≠2∧(c=32∨c=9) then { f with pos:=3}
 else if f.pos≠2∧c=13 then { f with pos:=4}
 else xM f 5
def tK (f:Fm) (c:UInt8):Str:=(rY f.mark f.held.toNat c).1.drop (min f.skip ((rY f.mark f.held.toNat c).1.length:Int)).toNat
def ug (f:Fm) (c:UInt8):Fm:=
 if(rY f.mark f.held.toNat c).2.2=false then
  { fmSk f c with skip:=f.skip - min f.skip ((rY f.mark f.held.toNat c).1.length:Int),out:=if f.pos=6∧tK f c≠[] then f.out++[evB (tK f c)] else f.out}
 else { fmSk f c with pos:=1,skip:=0,out:=if f.pos=6 then(if tK f c≠[] then f.out++[evB (tK f c),evO] else f.out++[evO]) else f.out}
def lnOf (f:Fm):Ln:=match f.ln with|some l=>l|none=>ln0
def fmF (f:Fm) (c:UInt8):Fm:=
 if f.pos=0∨f.pos=6 then ug f c
 else if f.pos=1∨f.pos=2∨f.pos=3 then wS f c
 else if f.pos=4 then(if c≠10 then xM f 2 else { f with pos:=5,ln:=some ln0,fields:=[]})
 else if f.pos=5 then
  if(lnF (lnOf f) c).2.2.2≠0 then xM { f with ln:=some (lnF (lnOf f) c).1} (lnF (lnOf f) c).2.2.2
  else if(lnF (lnOf f) c).2.2.1=true then tq { f with ln:=some (lnF (lnOf f) c).1} (lnF (lnOf f) c).2.1
  else { f with ln:=some (lnF (lnOf f) c).1}
 else f
def zbo (b:Str):Str:=[13,10,45,45]++b
def fm0 (b:Str):Fm:=fmSk (fmSk ⟨zbo b,0,Rk (zbo b),0,none,[],0,0,0,[]⟩ 13) 10
def V5 (f:Fm) (b:Str):Fm:=b.foldl fmF f
def xK (f:Fm) (b:Str):Fm:=V5 { f with out:=[]} b
def rU (f:Fm):Int:=if f.pos=8 then f.code else if f.pos=7 then 0 else 14
def prtS (l:List Prt) (e:Evt):List Prt:=
 if e.kind=5 then l++[e.part]
 else if e.kind=2 then(match l.getLast? with|some p=>l.dropLast++[{ p with bytes:=p.bytes++e.bytes}]|none=>l)
 else l
def Yk (b x:Str):List Prt × Int:=
 if Vt b=false then([],5)
 else if rU (xK (fm0 b) x)≠0 then([],rU (xK (fm0 b) x))
 else((zZ (xK (fm0 b) x).out).foldl prtS [],0)
end Go.Proofs.YtkjepecoodjbmaaGreatDoor
namespace Go.Proofs.YtkjepecoodjbmaaGreatDoor
open Go Go.Sep Go.Ab
set_option maxRecDepth 100000
def qJ (I:Alg) (args:List D) (hp:List HO):Option CT:=match args,hp with
 |[.v (.one (.p (.str s))),.v (.one (.p (.str p)))],[]=>(fun(s p:Str)=>(some (.one ⟨I.hid (True),(.ret (.v (.one (.p (.bool (I.hid (Lib.hasPrefix s p))))))),[]⟩):Option CT)) s p
 |_,_=>none
theorem SB:zx Tryz.prog 48 (qJ alg):=by
 intro args hp r h;unfold qJ at h;split at h<;>cases h
 rename_i s p;simp only [CT.Good,zi];intro _
 refine Spc.of_below ⟨_,Tryz.func48,by kernel_rfl,by kernel_rfl⟩ fun S bs w vs _ hM=> ?_
 obtain⟨v,r,rfl⟩: ∃ v r,vs=v::r:=by cases vs with|nil=>exact hM.elim|cons v r=>exact⟨v,r,rfl⟩
 obtain⟨h1,hM⟩:=hM
 obtain⟨v2,r2,rfl⟩: ∃ v r2,r=v::r2:=by cases r with|nil=>exact hM.elim|cons v r=>exact⟨v,r,rfl⟩
 obtain⟨h2,hM⟩:=hM
 obtain rfl:r2=[]:=by cases r2 with|nil=>rfl|cons v r=>exact hM.elim
 cases h1 with
 | str _ hl1=>
   cases h2 with
   | str _ hl2=>
     refine⟨.bool (Lib.hasPrefix s p),.bool _,(Tryz.strings_HasPrefix (Sep.S s) (Sep.S p) w).mono fun e w' h=> ?_⟩;obtain⟨he,rfl⟩:=h;exact⟨he,Go.RowKit.Below.refl _ _⟩
def yL:Know Tryz.prog:=⟨48,qJ,SB⟩
def yK:Know Tryz.prog:=⟨48,fun I=>zy I (qJ I),zf SB⟩
def qM (I:Alg) (args:List D) (hp:List HO):Option CT:=match args,hp with
 |[.v (.one (.p (.str s))),.v (.one (.p (.str ([c]))))],[]=>(fun(s:Str) (c:UInt8)=>(some (.one ⟨I.hid (True),(.ret (.v (.one (.p (.bool (I.hid (decide (0≤Lib.indexByte s c)))))))),[]⟩):Option CT)) s c
 |_,_=>none
theorem SV:zx Tryz.prog 211 (qM alg):=by
 intro args hp r h;unfold qM at h;split at h<;>cases h
 rename_i s c;simp only [CT.Good,zi];intro _
 refine Spc.of_below ⟨_,Tryz.func211,by kernel_rfl,by kernel_rfl⟩ fun S bs w vs _ hM=> ?_
 obtain⟨v,r,rfl⟩: ∃ v r,vs=v::r:=by cases vs with|nil=>exact hM.elim|cons v r=>exact⟨v,r,rfl⟩
 obtain⟨h1,hM⟩:=hM
 obtain⟨v2,r2,rfl⟩: ∃ v r2,r=v::r2:=by cases r with|nil=>exact hM.elim|cons v r=>exact⟨v,r,rfl⟩
 obtain⟨h2,hM⟩:=hM
 obtain rfl:r2=[]:=by cases r2 with|nil=>rfl|cons v r=>exact hM.elim
 cases h1 with
 | str _ hl1=>
   cases h2 with
   | str _ hl2=>
     refine⟨.bool (decide (0≤Lib.indexByte s c)),.bool _,(Tryz.strings_Contains_one (Sep.S s) c w).mono fun e w' h=> ?_⟩;obtain⟨he,rfl⟩:=h;exact⟨he,Go.RowKit.Below.refl _ _⟩
def SS:Know Tryz.prog:=⟨211,qM,SV⟩
def SQ:Know Tryz.prog:=⟨211,fun I=>zy I (qM I),zf SV⟩
end Go.Proofs.YtkjepecoodjbmaaGreatDoor
namespace Go.Proofs.YtkjepecoodjbmaaGreatDoor
open Go Go.Sep Go.Ab
set_option maxRecDepth 100000
theorem zbM (s p:Str):(Lib.trimPrefix s p).length≤s.length:=by
 unfold Lib.trimPrefix
 split
 · simp
 · exact jL _
def qL (I:Alg) (args:List D) (hp:List HO):Option CT:=match args,hp with
 |[.v (.one (.p (.str s))),.v (.one (.p (.str p)))],[]=>(fun(s p:Str)=>(some (.one ⟨I.hid (True),(.ret (.tup [(.one (.p (.str (I.hid ((Lib.trimPrefix s p)))))),(.one (.p (.bool (I.hid (Lib.hasPrefix s p)))))])),[]⟩):Option CT)) s p
 |_,_=>none
theorem SN:zx Tryz.prog 181 (qL alg):=by
 intro args hp r h;unfold qL at h;split at h<;>cases h
 rename_i s p;simp only [CT.Good,zi];intro _
 refine Spc.of_below ⟨_,Tryz.func181,by kernel_rfl,by kernel_rfl⟩ fun S bs w vs _ hM=> ?_
 obtain⟨v,r,rfl⟩: ∃ v r,vs=v::r:=by cases vs with|nil=>exact hM.elim|cons v r=>exact⟨v,r,rfl⟩
 obtain⟨h1,hM⟩:=hM
 obtain⟨v2,r2,rfl⟩: ∃ v r2,r=v::r2:=by cases r with|nil=>exact hM.elim|cons v r=>exact⟨v,r,rfl⟩
 obtain⟨h2,hM⟩:=hM
 obtain rfl:r2=[]:=by cases r2 with|nil=>rfl|cons v r=>exact hM.elim
 cases h1 with
 | str _ hl1=>
   cases h2 with
   | str _ hl2=>
     refine⟨.tuple #[.string (Sep.S (Lib.trimPrefix s p)),.bool (Lib.hasPrefix s p)],⟨[.string (Sep.S (Lib.trimPrefix s p)),.bool (Lib.hasPrefix s p)],⟨.str _ (Nat.le_trans (zbM _ _) hl1),.bool _,trivial⟩,rfl⟩,(Tryz.strings_CutPrefix (Sep.S s) (Sep.S p) w).mono fun e w' h=> ?_⟩;obtain⟨he,rfl⟩:=h;exact⟨he,Go.RowKit.Below.refl _ _⟩
def SL:Know Tryz.prog:=⟨181,qL,SN⟩
def SK:Know Tryz.prog:=⟨181,fun I=>zy I (qL I),zf SN⟩
def FOk (f:List Fld):Prop:=f.length≤1000∧∀ x ∈ f,x.name.length≤1000000∧x.value.length≤1000000
def cfgT:Cfg:= { sl:=UA.sl++[⟨170,1000003,.byte,none⟩],fz:=[126]}
def Rw (I:Alg) (args:List D) (hp:List HO):Option CT:=match args,hp with
 |[.v (.one (.p (.int .i64 st))),.v (.one (.p (.list .fld fs)))],[]=>(fun(st:Int) (fs:List Fld)=>(some (.one ⟨I.hid (True),(.pan (.ifc 165 true [(.int .i64 st),(.list .fld fs),(.list .byte (I.hid ([])))])),[]⟩):Option CT)) st fs
 |_,_=>none
theorem zjl:zx Tryz.prog 126 (Rw alg):=by
 intro args hp r h;unfold Rw at h;split at h<;>cases h
 rename_i st fs
 revert fs;intro(fs:List Fld)
 simp only [CT.Good,zi];intro _
 refine spcG zh mixed Tryz.func126 (by kernel_rfl) { keep:=some [0,1]} [] (by kernel_rfl) ?_
 intro I X hI hX
 refine orcL ?_;go_invoke;refine orcS (by kernel_rfl) ?_
 simp only [zq,Nat.reduceAdd]
 try trivial
def zU:Know Tryz.prog:=⟨126,Rw,zjl⟩
def zT:Know Tryz.prog:=⟨126,fun I=>zy I (Rw I),zf zjl⟩
def Wy (I:Alg) (args:List D) (hp:List HO):Option CT:=match args,hp with
 |[.v (.one (.p (.str n))),.v (.one (.p (.str v)))],[]=>(fun(n v:Str)=>(some (.one ⟨I.hid (True),(.ret (.v (.agg [(.p (.str n)),(.p (.str v))]))),[]⟩):Option CT)) n v
 |_,_=>none
theorem zfg:zx Tryz.prog 87 (Wy alg):=by
 intro args hp r h;unfold Wy at h;split at h<;>cases h
 rename_i n v;simp only [CT.Good,zi];intro _
 refine spcG zh mixed Tryz.func87 (by kernel_rfl) { keep:=some [0,1,4]} [] (by kernel_rfl) ?_
 intro I X hI hX
 refine orcL ?_;go_invoke;refine orcS (by kernel_rfl) ?_
 simp only [zq,Nat.reduceAdd]
 try trivial
def yJ:Know Tryz.prog:=⟨87,Wy,zfg⟩
def yI:Know Tryz.prog:=⟨87,fun I=>zy I (Wy I),zf zfg⟩
def zdG (I:Alg) (args:List D) (hp:List HO):Option CT:=match args,hp with
 |[.v (.one (.p (.int .i64 n)))],[]=>(fun(n:Int)=>(some (.one ⟨I.hid (0≤n∧n<1000000000),(.ret (.v (.one (.p (.str (I.hid ((decS n)))))))),[]⟩):Option CT)) n
 |_,_=>none
theorem znm:zx Tryz.prog 127 (zdG alg):=by
 intro args hp r h;unfold zdG at h;split at h<;>cases h
 rename_i n;simp only [CT.Good,zi];intro hneed
 refine spcG zh mixed Tryz.func127 (by kernel_rfl) { keep:=some [0,2]} [qX,qW] (by kernel_rfl) ?_
 intro I X hI hX
 refine orcL ?_;go_invoke;refine orcS (by kernel_rfl) ?_
 simp only [zq,Nat.reduceAdd];subst hI;simp only [nrmA,nrmB]
 first|exact hneed|exact⟨hneed,trivial⟩|trace_state
def wK:Know Tryz.prog:=⟨127,zdG,znm⟩
def wJ:Know Tryz.prog:=⟨127,fun I=>zy I (zdG I),zf znm⟩
theorem zvO (m t:Str) (mi:Int) (f:List Fld) (le:Int) (l:List Upl) (n:Int) (b:Str) (s:Int) (nm:Str) (hneed:(FOk f∧nm.length≤1000000)∧¬ (oneT f nm).2=9):Spc Tryz.prog 128 [.v (.one (.ptr 0 0)),.v (.one (.p (.str nm)))] [.obj 170 [(.ptr 1 0),(.p (.str m)),(.p (.str t)),(.p (.int .i64 mi)),(.p (.list .fld f)),(.p (.int .i64 le))],.pack [.obj 54 [(.ptr 1 0),(.ptr 2 0)],.pack [.obj 124 [(.row 1),(.p (.int .i64 n))],.row .upl 81 l],.pack [.obj 156 [(.row 1),(.p (.int .i64 s))],.row .byte 5 b]]] (.ret (.tup [(.one (.p (.str ((oneT f nm).1)))),(.one (.p (.bool (decide ((oneT f nm).2=0)))))])) [.obj 170 [(.ptr 1 0),(.p (.str m)),(.p (.str t)),(.p (.int .i64 mi)),(.p (.list .fld f)),(.p (.int .i64 le))],.pack [.obj 54 [(.ptr 1 0),(.ptr 2 0)],.pack [.obj 124 [(.row 1),(.p (.int .i64 n))],.row .upl 81 l],.pack [.obj 156 [(.row 1),(.p (.int .i64 s))],.row .byte 5 b]]]:=by
 obtain⟨⟨hf,hn⟩,h9⟩:=hneed
 refine spcG zh mixed Tryz.func128 (by kernel_rfl) { cfgT with keep:=some [0,1,4,5,6,7]} [YG,YF,zU,zT] (by kernel_rfl) ?_
 intro I X hI hX
 refine orcL ?_;go_invoke;refine orcS (by kernel_rfl) ?_
 simp only [zq,Nat.reduceAdd];subst hI;unfold oneT at *;simp only [nrmA,nrmB,nrlB,reduceCtorEq]
 (repeat' (first|refine ja ?_ ?_|intro _))<;>first|omega|exact jb|exact jc ‹False›|skip
 all_goals first|exact hf.1|exact hn|exact hf.2|(exact(hf.2 _ ‹_›).1)|(exact(hf.2 _ ‹_›).2)|rfl|(exact⟨hf.1,hn,hf.2⟩)|(exfalso;exact h9 ‹_›)|(simp_all;done)|trace_state
theorem zvN (m t:Str) (mi:Int) (f:List Fld) (le:Int) (l:List Upl) (n:Int) (b:Str) (s:Int) (nm:Str) (hneed:(FOk f∧nm.length≤1000000)∧(oneT f nm).2=9):Spc Tryz.prog 128 [.v (.one (.ptr 0 0)),.v (.one (.p (.str nm)))] [.obj 170 [(.ptr 1 0),(.p (.str m)),(.p (.str t)),(.p (.int .i64 mi)),(.p (.list .fld f)),(.p (.int .i64 le))],.pack [.obj 54 [(.ptr 1 0),(.ptr 2 0)],.pack [.obj 124 [(.row 1),(.p (.int .i64 n))],.row .upl 81 l],.pack [.obj 156 [(.row 1),(.p (.int .i64 s))],.row .byte 5 b]]] (.pan (.ifc 165 true [(.int .i64 400),(.list .fld ([])),(.list .byte ([]))])) [.obj 170 [(.ptr 1 0),(.p (.str m)),(.p (.str t)),(.p (.int .i64 mi)),(.p (.list .fld f)),(.p (.int .i64 le))],.pack [.obj 54 [(.ptr 1 0),(.ptr 2 0)],.pack [.obj 124 [(.row 1),(.p (.int .i64 n))],.row .upl 81 l],.pack [.obj 156 [(.row 1),(.p (.int .i64 s))],.row .byte 5 b]]]:=by
 obtain⟨⟨hf,hn⟩,h9⟩:=hneed
 refine spcG zh mixed Tryz.func128 (by kernel_rfl) { cfgT with keep:=some [0,1,4,5,6,7]} [YG,YF,zU,zT] (by kernel_rfl) ?_
 intro I X hI hX
 refine orcL ?_;go_invoke;refine orcS (by kernel_rfl) ?_
 simp only [zq,Nat.reduceAdd];subst hI;unfold oneT at *;simp only [nrmA,nrmB,nrlB,reduceCtorEq]
 (repeat' (first|refine ja ?_ ?_|intro _))<;>first|omega|exact jb|exact jc ‹False›|skip
 all_goals first|exact hf.1|exact hn|exact hf.2|(exact(hf.2 _ ‹_›).1)|(exact(hf.2 _ ‹_›).2)|rfl|(exact⟨hf.1,hn,hf.2⟩)|(exfalso;contradiction)|(simp_all;done)|trace_state
def zdF (I:Alg) (args:List D) (hp:List HO):Option CT:=match args,hp with
 |[.v (.one (.ptr 0 0)),.v (.one (.p (.str nm)))],[.obj 170 [(.ptr 1 0),(.p (.str m)),(.p (.str t)),(.p (.int .i64 mi)),(.p (.list .fld f)),(.p (.int .i64 le))],.pack [.obj 54 [(.ptr 1 0),(.ptr 2 0)],.pack [.obj 124 [(.row 1),(.p (.int .i64 n))],.row .upl 81 l],.pack [.obj 156 [(.row 1),(.p (.int .i64 s))],.row .byte 5 b]]]=>(fun(m t:Str) (mi:Int) (f:List Fld) (le:Int) (l:List Upl) (n:Int) (b:Str) (s:Int) (nm:Str)=>(some (.br (I.hid (decide ((oneT f nm).2=9))) (.one ⟨I.hid ((FOk f∧nm.length≤1000000)∧(oneT f nm).2=9),(.pan (.ifc 165 true [(.int .i64 400),(.list .fld (I.hid ([]))),(.list .byte (I.hid ([])))])),[.obj 170 [(.ptr 1 0),(.p (.str m)),(.p (.str t)),(.p (.int .i64 mi)),(.p (.list .fld f)),(.p (.int .i64 le))],.pack [.obj 54 [(.ptr 1 0),(.ptr 2 0)],.pack [.obj 124 [(.row 1),(.p (.int .i64 n))],.row .upl 81 l],.pack [.obj 156 [(.row 1),(.p (.int .i64 s))],.row .byte 5 b]]]⟩) (.one ⟨I.hid ((FOk f∧nm.length≤1000000)∧¬ (oneT f nm).2=9),(.ret (.tup [(.one (.p (.str (I.hid ((oneT f nm).1))))),(.one (.p (.bool (I.hid (decide ((oneT f nm).2=0))))))])),[.obj 170 [(.ptr 1 0),(.p (.str m)),(.p (.str t)),(.p (.int .i64 mi)),(.p (.list .fld f)),(.p (.int .i64 le))],.pack [.obj 54 [(.ptr 1 0),(.ptr 2 0)],.pack [.obj 124 [(.row 1),(.p (.int .i64 n))],.row .upl 81 l],.pack [.obj 156 [(.row 1),(.p (.int .i64 s))],.row .byte 5 b]]]⟩)):Option CT)) m t mi f le l n b s nm
 |_,_=>none
theorem znl:zx Tryz.prog 128 (zdF alg):=by
 intro args hp r h;unfold zdF at h
 split at h
 · cases h;exact⟨fun _ hn=>zvN _ _ _ _ _ _ _ _ _ _ hn,fun _ hn=>zvO _ _ _ _ _ _ _ _ _ _ hn⟩
 · cases h
def wI:Know Tryz.prog:=⟨128,zdF,znl⟩
def wH:Know Tryz.prog:=⟨128,fun I=>zy I (zdF I),zf znl⟩
end Go.Proofs.YtkjepecoodjbmaaGreatDoor
namespace Go.Proofs.YtkjepecoodjbmaaGreatDoor
open Go Go.Sep Go.Ab
set_option maxRecDepth 100000
theorem Zj (f:List Fld) (n:Str):(oneT f n).2=0∨(oneT f n).2=9∨(oneT f n).2=10:=by
 unfold oneT oneF
 repeat' split
 all_goals simp
theorem zt7 (m t:Str) (mi:Int) (f:List Fld) (le:Int) (l:List Upl) (n:Int) (b:Str) (s:Int) (nm:Str) (hneed:(FOk f∧nm.length≤1000000)∧XF f nm=true):Spc Tryz.prog 178 [.v (.one (.ptr 0 0)),.v (.one (.p (.str nm)))] [.obj 170 [(.ptr 1 0),(.p (.str m)),(.p (.str t)),(.p (.int .i64 mi)),(.p (.list .fld f)),(.p (.int .i64 le))],.pack [.obj 54 [(.ptr 1 0),(.ptr 2 0)],.pack [.obj 124 [(.row 1),(.p (.int .i64 n))],.row .upl 81 l],.pack [.obj 156 [(.row 1),(.p (.int .i64 s))],.row .byte 5 b]]] (.ret (.v (.one (.p (.int .i64 ((zS f nm))))))) [.obj 170 [(.ptr 1 0),(.p (.str m)),(.p (.str t)),(.p (.int .i64 mi)),(.p (.list .fld f)),(.p (.int .i64 le))],.pack [.obj 54 [(.ptr 1 0),(.ptr 2 0)],.pack [.obj 124 [(.row 1),(.p (.int .i64 n))],.row .upl 81 l],.pack [.obj 156 [(.row 1),(.p (.int .i64 s))],.row .byte 5 b]]]:=by
 obtain⟨⟨hf,hn⟩,h9⟩:=hneed;have hcd:=Zj f nm
 refine spcG zh mixed Tryz.func178 (by kernel_rfl) { cfgT with keep:=some [0,1,4,5,6,7]} [rE,rD,zU,zT,wI,wH] (by kernel_rfl) ?_
 intro I X hI hX
 refine orcL ?_;go_invoke;refine orcS (by kernel_rfl) ?_
 simp only [zq,Nat.reduceAdd];subst hI;unfold XF at h9;unfold zS;simp only [nrmA,nrmB,nrlB,reduceCtorEq]
 (repeat' (first|refine ja ?_ ?_|intro _))<;>first|omega|exact jb|exact jc ‹False›|skip
 all_goals first|omega|assumption|(exact hf)|exact hf.1|(exact(hf.2 _ ‹_›).1)|(exact(hf.2 _ ‹_›).2)|(exact⟨hf,by decide⟩)|(exact⟨⟨hf,by decide⟩,‹_›⟩)|(exfalso;simp_all;done)|(simp_all;done)|(simp_all;omega)|(rcases hcd with h|h|h<;>simp_all;done)|trace_state
theorem zt6 (m t:Str) (mi:Int) (f:List Fld) (le:Int) (l:List Upl) (n:Int) (b:Str) (s:Int) (nm:Str) (hneed:(FOk f∧nm.length≤1000000)∧XF f nm=false):Spc Tryz.prog 178 [.v (.one (.ptr 0 0)),.v (.one (.p (.str nm)))] [.obj 170 [(.ptr 1 0),(.p (.str m)),(.p (.str t)),(.p (.int .i64 mi)),(.p (.list .fld f)),(.p (.int .i64 le))],.pack [.obj 54 [(.ptr 1 0),(.ptr 2 0)],.pack [.obj 124 [(.row 1),(.p (.int .i64 n))],.row .upl 81 l],.pack [.obj 156 [(.row 1),(.p (.int .i64 s))],.row .byte 5 b]]] (.pan (.ifc 165 true [(.int .i64 400),(.list .fld ([])),(.list .byte ([]))])) [.obj 170 [(.ptr 1 0),(.p (.str m)),(.p (.str t)),(.p (.int .i64 mi)),(.p (.list .fld f)),(.p (.int .i64 le))],.pack [.obj 54 [(.ptr 1 0),(.ptr 2 0)],.pack [.obj 124 [(.row 1),(.p (.int .i64 n))],.row .upl 81 l],.pack [.obj 156 [(.row 1),(.p (.int .i64 s))],.row .byte 5 b]]]:=by
 obtain⟨⟨hf,hn⟩,h9⟩:=hneed;have hcd:=Zj f nm
 refine spcG zh mixed Tryz.func178 (by kernel_rfl) { cfgT with keep:=some [0,1,4,5,6,7]} [rE,rD,zU,zT,wI,wH] (by kernel_rfl) ?_
 intro I X hI hX
 refine orcL ?_;go_invoke;refine orcS (by kernel_rfl) ?_
 simp only [zq,Nat.reduceAdd];subst hI;unfold XF at h9;simp only [nrmA,nrmB,nrlB,reduceCtorEq]
 (repeat' (first|refine ja ?_ ?_|intro _))<;>first|omega|exact jb|exact jc ‹False›|skip
 all_goals first|omega|assumption|(exact hf)|exact hf.1|(exact(hf.2 _ ‹_›).1)|(exact(hf.2 _ ‹_›).2)|(exact⟨hf,by decide⟩)|(exact⟨⟨hf,by decide⟩,‹_›⟩)|(exfalso;simp_all;done)|(simp_all;done)|(simp_all;omega)|(rcases hcd with h|h|h<;>simp_all;done)|trace_state
def Ry (I:Alg) (args:List D) (hp:List HO):Option CT:=match args,hp with
 |[.v (.one (.ptr 0 0)),.v (.one (.p (.str nm)))],[.obj 170 [(.ptr 1 0),(.p (.str m)),(.p (.str t)),(.p (.int .i64 mi)),(.p (.list .fld f)),(.p (.int .i64 le))],.pack [.obj 54 [(.ptr 1 0),(.ptr 2 0)],.pack [.obj 124 [(.row 1),(.p (.int .i64 n))],.row .upl 81 l],.pack [.obj 156 [(.row 1),(.p (.int .i64 s))],.row .byte 5 b]]]=>(fun(m t:Str) (mi:Int) (f:List Fld) (le:Int) (l:List Upl) (n:Int) (b:Str) (s:Int) (nm:Str)=>(some (.br (I.hid (XF f nm)) (.one ⟨I.hid ((FOk f∧nm.length≤1000000)∧XF f nm=true),(.ret (.v (.one (.p (.int .i64 (I.hid ((zS f nm)))))))),[.obj 170 [(.ptr 1 0),(.p (.str m)),(.p (.str t)),(.p (.int .i64 mi)),(.p (.list .fld f)),(.p (.int .i64 le))],.pack [.obj 54 [(.ptr 1 0),(.ptr 2 0)],.pack [.obj 124 [(.row 1),(.p (.int .i64 n))],.row .upl 81 l],.pack [.obj 156 [(.row 1),(.p (.int .i64 s))],.row .byte 5 b]]]⟩) (.one ⟨I.hid ((FOk f∧nm.length≤1000000)∧XF f nm=false),(.pan (.ifc 165 true [(.int .i64 400),(.list .fld (I.hid ([]))),(.list .byte (I.hid ([])))])),[.obj 170 [(.ptr 1 0),(.p (.str m)),(.p (.str t)),(.p (.int .i64 mi)),(.p (.list .fld f)),(.p (.int .i64 le))],.pack [.obj 54 [(.ptr 1 0),(.ptr 2 0)],.pack [.obj 124 [(.row 1),(.p (.int .i64 n))],.row .upl 81 l],.pack [.obj 156 [(.row 1),(.p (.int .i64 s))],.row .byte 5 b]]]⟩)):Option CT)) m t mi f le l n b s nm
 |_,_=>none
theorem zjn:zx Tryz.prog 178 (Ry alg):=by
 intro args hp r h;unfold Ry at h
 split at h
 · cases h;exact⟨fun _ hn=>zt7 _ _ _ _ _ _ _ _ _ _ hn,fun _ hn=>zt6 _ _ _ _ _ _ _ _ _ _ hn⟩
 · cases h
def sF:Know Tryz.prog:=⟨178,Ry,zjn⟩
def sD:Know Tryz.prog:=⟨178,fun I=>zy I (Ry I),zf zjn⟩
theorem zq9 (m t:Str) (mi:Int) (f:List Fld) (le:Int) (l:List Upl) (n:Int) (b:Str) (s:Int) (hneed:FOk f∧VB f=true):Spc Tryz.prog 179 [.v (.one (.ptr 0 0))] [.obj 170 [(.ptr 1 0),(.p (.str m)),(.p (.str t)),(.p (.int .i64 mi)),(.p (.list .fld f)),(.p (.int .i64 le))],.pack [.obj 54 [(.ptr 1 0),(.ptr 2 0)],.pack [.obj 124 [(.row 1),(.p (.int .i64 n))],.row .upl 81 l],.pack [.obj 156 [(.row 1),(.p (.int .i64 s))],.row .byte 5 b]]] (.ret (.v (.one (.p (.bool ((zf9 f))))))) [.obj 170 [(.ptr 1 0),(.p (.str m)),(.p (.str t)),(.p (.int .i64 mi)),(.p (.list .fld f)),(.p (.int .i64 le))],.pack [.obj 54 [(.ptr 1 0),(.ptr 2 0)],.pack [.obj 124 [(.row 1),(.p (.int .i64 n))],.row .upl 81 l],.pack [.obj 156 [(.row 1),(.p (.int .i64 s))],.row .byte 5 b]]]:=by
 obtain⟨hf,h9⟩:=hneed;have hcd:=Zj f zao;unfold zao at hcd
 refine spcG zh mixed Tryz.func179 (by kernel_rfl) { cfgT with keep:=some [0,2,3,4]} [zU,zT,wI,wH] (by kernel_rfl) ?_
 intro I X hI hX
 refine orcL ?_;go_invoke;refine orcS (by kernel_rfl) ?_
 simp only [zq,Nat.reduceAdd];subst hI;unfold VB zao at h9;unfold zf9 zao;simp only [nrmA,nrmB,nrlB,reduceCtorEq]
 (repeat' (first|refine ja ?_ ?_|intro _))<;>first|omega|exact jb|exact jc ‹False›|skip
 all_goals first|omega|assumption|(exact hf)|exact hf.1|(exact(hf.2 _ ‹_›).1)|(exact(hf.2 _ ‹_›).2)|(exact⟨hf,by decide⟩)|(exact⟨⟨hf,by decide⟩,‹_›⟩)|(exfalso;simp_all;done)|(simp_all;done)|(simp_all;omega)|(rcases hcd with h|h|h<;>simp_all;done)|trace_state
theorem zq8 (m t:Str) (mi:Int) (f:List Fld) (le:Int) (l:List Upl) (n:Int) (b:Str) (s:Int) (hneed:FOk f∧VB f=false):Spc Tryz.prog 179 [.v (.one (.ptr 0 0))] [.obj 170 [(.ptr 1 0),(.p (.str m)),(.p (.str t)),(.p (.int .i64 mi)),(.p (.list .fld f)),(.p (.int .i64 le))],.pack [.obj 54 [(.ptr 1 0),(.ptr 2 0)],.pack [.obj 124 [(.row 1),(.p (.int .i64 n))],.row .upl 81 l],.pack [.obj 156 [(.row 1),(.p (.int .i64 s))],.row .byte 5 b]]] (.pan (.ifc 165 true [(.int .i64 400),(.list .fld ([])),(.list .byte ([]))])) [.obj 170 [(.ptr 1 0),(.p (.str m)),(.p (.str t)),(.p (.int .i64 mi)),(.p (.list .fld f)),(.p (.int .i64 le))],.pack [.obj 54 [(.ptr 1 0),(.ptr 2 0)],.pack [.obj 124 [(.row 1),(.p (.int .i64 n))],.row .upl 81 l],.pack [.obj 156 [(.row 1),(.p (.int .i64 s))],.row .byte 5 b]]]:=by
 obtain⟨hf,h9⟩:=hneed;have hcd:=Zj f zao;unfold zao at hcd
 refine spcG zh mixed Tryz.func179 (by kernel_rfl) { cfgT with keep:=some [0,2,3,4]} [zU,zT,wI,wH] (by kernel_rfl) ?_
 intro I X hI hX
 refine orcL ?_;go_invoke;refine orcS (by kernel_rfl) ?_
 simp only [zq,Nat.reduceAdd];subst hI;unfold VB zao at h9;simp only [nrmA,nrmB,nrlB,reduceCtorEq]
 (repeat' (first|refine ja ?_ ?_|intro _))<;>first|omega|exact jb|exact jc ‹False›|skip
 all_goals first|omega|assumption|(exact hf)|exact hf.1|(exact(hf.2 _ ‹_›).1)|(exact(hf.2 _ ‹_›).2)|(exact⟨hf,by decide⟩)|(exact⟨⟨hf,by decide⟩,‹_›⟩)|(exfalso;simp_all;done)|(simp_all;done)|(simp_all;omega)|(rcases hcd with h|h|h<;>simp_all;done)|trace_state
def Wx (I:Alg) (args:List D) (hp:List HO):Option CT:=match args,hp with
 |[.v (.one (.ptr 0 0))],[.obj 170 [(.ptr 1 0),(.p (.str m)),(.p (.str t)),(.p (.int .i64 mi)),(.p (.list .fld f)),(.p (.int .i64 le))],.pack [.obj 54 [(.ptr 1 0),(.ptr 2 0)],.pack [.obj 124 [(.row 1),(.p (.int .i64 n))],.row .upl 81 l],.pack [.obj 156 [(.row 1),(.p (.int .i64 s))],.row .byte 5 b]]]=>(fun(m t:Str) (mi:Int) (f:List Fld) (le:Int) (l:List Upl) (n:Int) (b:Str) (s:Int)=>(some (.br (I.hid (VB f)) (.one ⟨I.hid (FOk f∧VB f=true),(.ret (.v (.one (.p (.bool (I.hid ((zf9 f)))))))),[.obj 170 [(.ptr 1 0),(.p (.str m)),(.p (.str t)),(.p (.int .i64 mi)),(.p (.list .fld f)),(.p (.int .i64 le))],.pack [.obj 54 [(.ptr 1 0),(.ptr 2 0)],.pack [.obj 124 [(.row 1),(.p (.int .i64 n))],.row .upl 81 l],.pack [.obj 156 [(.row 1),(.p (.int .i64 s))],.row .byte 5 b]]]⟩) (.one ⟨I.hid (FOk f∧VB f=false),(.pan (.ifc 165 true [(.int .i64 400),(.list .fld (I.hid ([]))),(.list .byte (I.hid ([])))])),[.obj 170 [(.ptr 1 0),(.p (.str m)),(.p (.str t)),(.p (.int .i64 mi)),(.p (.list .fld f)),(.p (.int .i64 le))],.pack [.obj 54 [(.ptr 1 0),(.ptr 2 0)],.pack [.obj 124 [(.row 1),(.p (.int .i64 n))],.row .upl 81 l],.pack [.obj 156 [(.row 1),(.p (.int .i64 s))],.row .byte 5 b]]]⟩)):Option CT)) m t mi f le l n b s
 |_,_=>none
theorem zff:zx Tryz.prog 179 (Wx alg):=by
 intro args hp r h;unfold Wx at h
 split at h
 · cases h;exact⟨fun _ hn=>zq9 _ _ _ _ _ _ _ _ _ hn,fun _ hn=>zq8 _ _ _ _ _ _ _ _ _ hn⟩
 · cases h
def znp:Know Tryz.prog:=⟨179,Wx,zff⟩
def zno:Know Tryz.prog:=⟨179,fun I=>zy I (Wx I),zf zff⟩
theorem zvM (c:Int) (hneed:c=0):Spc Tryz.prog 133 [.v (.one (.p (.int .i64 c)))] [] (.ret (.tup [])) []:=by
 refine spcG zh mixed Tryz.func133 (by kernel_rfl) { keep:=some [0,2,9,16]} [zU,zT] (by kernel_rfl) ?_
 intro I X hI hX
 refine orcL ?_;go_invoke;refine orcS (by kernel_rfl) ?_
 simp only [zq,Nat.reduceAdd];subst hI;simp only [nrmA,nrmB,nrlB,reduceCtorEq]
 (repeat' (first|refine ja ?_ ?_|intro _))<;>first|omega|exact jb|exact jc ‹False›|skip
 all_goals first|omega|(simp_all;done)|trace_state
theorem zvL (c:Int) (hneed: ¬ c=0):Spc Tryz.prog 133 [.v (.one (.p (.int .i64 c)))] [] (.pan (.ifc 165 true [(.int .i64 ((WE c))),(.list .fld ([])),(.list .byte ([]))])) []:=by
 generalize hr:WE c=r;unfold WE at hr
 refine spcG zh mixed Tryz.func133 (by kernel_rfl) { keep:=some [0,2,9,16]} [zU,zT] (by kernel_rfl) ?_
 intro I X hI hX
 refine orcL ?_;go_invoke;refine orcS (by kernel_rfl) ?_
 simp only [zq,Nat.reduceAdd];subst hI;simp only [nrmA,nrmB,nrlB,reduceCtorEq]
 (repeat' (first|refine ja ?_ ?_|intro _))<;>first|omega|exact jb|exact jc ‹False›|skip
 all_goals first|omega|(((repeat(first|rewrite [if_pos (by first|omega|assumption|(simp only [*,or_self,or_true,true_or,or_false,false_or,jf,jg,jd,je,and_self,and_true,true_and];done)|(simp only [*];omega)|(simp [*];done)|(simp [*];omega))] at hr|rewrite [if_neg (by first|omega|assumption|(simp only [*,or_self,or_true,true_or,or_false,false_or,jf,jg,jd,je,and_self,and_true,true_and];done)|(simp only [*];omega)|(simp [*];done)|(simp [*];omega))] at hr)));omega)|(simp_all;done)|trace_state
def zdE (I:Alg) (args:List D) (hp:List HO):Option CT:=match args,hp with
 |[.v (.one (.p (.int .i64 c)))],[]=>(fun(c:Int)=>(some (.br (I.hid (decide (c=0))) (.one ⟨I.hid (c=0),(.ret (.tup [])),[]⟩) (.one ⟨I.hid (¬ c=0),(.pan (.ifc 165 true [(.int .i64 (I.hid ((WE c)))),(.list .fld (I.hid ([]))),(.list .byte (I.hid ([])))])),[]⟩)):Option CT)) c
 |_,_=>none
theorem znk:zx Tryz.prog 133 (zdE alg):=by
 intro args hp r h;unfold zdE at h
 split at h
 · cases h;exact⟨fun _ hn=>zvM _ hn,fun _ hn=>zvL _ hn⟩
 · cases h
def vS:Know Tryz.prog:=⟨133,zdE,znk⟩
def vP:Know Tryz.prog:=⟨133,fun I=>zy I (zdE I),zf znk⟩
def zdH (I:Alg) (args:List D) (hp:List HO):Option CT:=match args,hp with
 |[.v (.agg [(.p (.int .i64 id)),(.p (.int .i64 sz)),(.p (.str no)),(.p (.list .byte bb)),(.p (.int .i64 se))])],[]=>(fun(id sz:Int) (no bb:Str) (se:Int)=>(some (.one ⟨I.hid (sz<1000000000),(.ret (.v (.agg [(.p (.str (I.hid ((lenF ⟨id,sz,no,bb,se⟩).name)))),(.p (.str (I.hid ((lenF ⟨id,sz,no,bb,se⟩).value))))]))),[]⟩):Option CT)) id sz no bb se
 |_,_=>none
theorem znn:zx Tryz.prog 183 (zdH alg):=by
 intro args hp r h;unfold zdH at h;split at h<;>cases h
 rename_i id sz no bb se;simp only [CT.Good,zi];intro hneed;generalize hr:lenF ⟨id,sz,no,bb,se⟩=r;obtain⟨a,v⟩:=r;unfold lenF at hr
 refine spcG zh mixed Tryz.func183 (by kernel_rfl) { keep:=some [0,1,2]} [yJ,yI,wK,wJ] (by kernel_rfl) ?_
 intro I X hI hX
 refine orcL ?_;go_invoke;refine orcS (by kernel_rfl) ?_
 simp only [zq,Nat.reduceAdd];subst hI;simp only [nrmA,nrmB,nrlB,reduceCtorEq,V0.agg.injEq];simp only at hr
 (repeat' (first|refine ja ?_ ?_|intro _))<;>first|omega|exact jb|exact jc ‹False›|skip
 all_goals first|omega|(((repeat(first|rewrite [if_pos (by first|omega|assumption|(simp only [*,or_self,or_true,true_or,or_false,false_or,jf,jg,jd,je,and_self,and_true,true_and];done)|(simp only [*];omega)|(simp [*];done)|(simp [*];omega))] at hr|rewrite [if_neg (by first|omega|assumption|(simp only [*,or_self,or_true,true_or,or_false,false_or,jf,jg,jd,je,and_self,and_true,true_and];done)|(simp only [*];omega)|(simp [*];done)|(simp [*];omega))] at hr)));cases hr;rfl)|(((repeat(first|rewrite [if_pos (by first|omega|assumption|(simp only [*,or_self,or_true,true_or,or_false,false_or,jf,jg,jd,je,and_self,and_true,true_and];done)|(simp only [*];omega)|(simp [*];done)|(simp [*];omega))] at hr|rewrite [if_neg (by first|omega|assumption|(simp only [*,or_self,or_true,true_or,or_false,false_or,jf,jg,jd,je,and_self,and_true,true_and];done)|(simp only [*];omega)|(simp [*];done)|(simp [*];omega))] at hr)));cases hr;simp [zvC,zvD];done)|(simp_all;done)|trace_state
def zt9:Know Tryz.prog:=⟨183,zdH,znn⟩
def zt8:Know Tryz.prog:=⟨183,fun I=>zy I (zdH I),zf znn⟩
end Go.Proofs.YtkjepecoodjbmaaGreatDoor
namespace Go.Proofs.YtkjepecoodjbmaaGreatDoor
open Go Go.Sep Go.Ab
set_option maxRecDepth 100000
theorem zee {f:List Fld} (hf:FOk f) (n:Str):(oneT f n).1.length≤1000000:=by
 unfold oneT oneF
 split
 · simp
 · split
   · rename_i h
     rw [jH]
     cases hq:(valsF f n)[0]? with
     |none=>simp
     | some y=>
       have:=List.mem_of_getElem? hq;unfold valsF at this;rw [List.mem_map] at this;obtain⟨x,hx,rfl⟩:=this;exact(hf.2 x (List.mem_filter.1 hx).1).2
   · simp
def YQ (I:Alg) (args:List D) (hp:List HO):Option CT:=match args,hp with
 |[.v (.one (.ptr 0 0))],[.obj 170 [(.ptr 1 0),(.p (.str m)),(.p (.str t)),(.p (.int .i64 mi)),(.p (.list .fld f)),(.p (.int .i64 le))],.pack [.obj 54 [(.ptr 1 0),(.ptr 2 0)],.pack [.obj 124 [(.row 1),(.p (.int .i64 n))],.row .upl 81 l],.pack [.obj 156 [(.row 1),(.p (.int .i64 s))],.row .byte 5 b]]]=>(fun(m t:Str) (mi:Int) (f:List Fld) (le:Int) (l:List Upl) (n:Int) (b:Str) (s:Int)=>(some (.one ⟨I.hid (FOk f∧zK l n∧n≤200000∧b.length≤100000),(.pan (.ifc 165 true [(.int .i64 (I.hid ((xX ⟨l,n,b,s⟩ f).st))),(.list .fld (I.hid ((xX ⟨l,n,b,s⟩ f).fs))),(.list .byte (I.hid ([])))])),[.obj 170 [(.ptr 1 0),(.p (.str m)),(.p (.str t)),(.p (.int .i64 mi)),(.p (.list .fld f)),(.p (.int .i64 le))],.pack [.obj 54 [(.ptr 1 0),(.ptr 2 0)],.pack [.obj 124 [(.row 1),(.p (.int .i64 (I.hid ((xX ⟨l,n,b,s⟩ f).q.n))))],.row .upl 81 (I.hid ((xX ⟨l,n,b,s⟩ f).q.l))],.pack [.obj 156 [(.row 1),(.p (.int .i64 (I.hid ((xX ⟨l,n,b,s⟩ f).q.s))))],.row .byte 5 (I.hid ((xX ⟨l,n,b,s⟩ f).q.b))]]]⟩):Option CT)) m t mi f le l n b s
 |_,_=>none
set_option maxHeartbeats 2000000 in
theorem zb6:zx Tryz.prog 129 (YQ alg):=by
 intro args hp r h;unfold YQ at h;split at h<;>cases h
 rename_i m t mi f le n l s b
 revert f l;intro(f:List Fld) (l:List Upl)
 simp only [CT.Good,zi];intro hneed;obtain⟨hf,hs,hn,hb⟩:=hneed;have hn0:=hs.n0;have hdl:=vz (n+1);have hcm:=Zj f zhE;have hol:=zee hf zhE;generalize hr:xX ⟨l,n,b,s⟩ f=r;obtain⟨st,fs,⟨l',n',b',s'⟩⟩:=r;unfold xX creE wsC wsS syS at hr
 refine spcG zh mixed Tryz.func129 (by kernel_rfl) { cfgT with keep:=some [0,2,3,4,6,7]} [TN,TM,zO,zN,zU,zT,yJ,yI,wK,wJ,wI,wH,sF,sD,znp,zno,vS,vP] (by kernel_rfl) ?_
 intro I X hI hX
 refine orcL ?_;go_invoke;refine orcS (by kernel_rfl) ?_
 simp only [zq,Nat.reduceAdd];subst hI;unfold yV zhE at *;unfold locN xh at hr;simp only at hr;simp only [nrmA,nrmB,nrlB,reduceCtorEq,HO.pack.injEq,HO.obj.injEq]
 by_cases h1:XF f [117,112,108,111,97,100,45,108,101,110,103,116,104]=false
 · rw [if_pos h1] at hr
   cases hr
   (repeat' (first|refine ja ?_ ?_|intro _))<;>first|omega|exact jb|exact jc ‹False›|skip
   all_goals first
    |omega
    |assumption
    |exact hs
    |exact hf.1
    |(exact(hf.2 _ ‹_›).1)
    |(exact(hf.2 _ ‹_›).2)
    |(simp only [jh,ji];omega)
    |(simp_all;done)
    |(exfalso;simp_all;done)
    |(simp only [wrtL,wrtN,wrtB,if_neg h5];done)
 rw [if_neg h1] at hr;simp only [Bool.not_eq_false] at h1
 by_cases h2:VB f=false
 · rw [if_pos h2] at hr
   cases hr
   (repeat' (first|refine ja ?_ ?_|intro _))<;>first|omega|exact jb|exact jc ‹False›|skip
   all_goals first
    |omega
    |assumption
    |exact hs
    |exact hf.1
    |(exact(hf.2 _ ‹_›).1)
    |(exact(hf.2 _ ‹_›).2)
    |(simp only [jh,ji];omega)
    |(simp_all;done)
    |(exfalso;simp_all;done)
    |(simp only [wrtL,wrtN,wrtB,if_neg h5];done)
 rw [if_neg h2] at hr;simp only [Bool.not_eq_false] at h2
 by_cases h3:decide (0≤zS f [117,112,108,111,97,100,45,108,101,110,103,116,104])=zf9 f
 · rw [if_pos h3] at hr
   cases hr
   (repeat' (first|refine ja ?_ ?_|intro _))<;>first|omega|exact jb|exact jc ‹False›|skip
   all_goals first
    |omega
    |assumption
    |exact hs
    |exact hf.1
    |(exact(hf.2 _ ‹_›).1)
    |(exact(hf.2 _ ‹_›).2)
    |(simp only [jh,ji];omega)
    |(simp_all;done)
    |(exfalso;simp_all;done)
    |(simp only [wrtL,wrtN,wrtB,if_neg h5];done)
 rw [if_neg h3] at hr
 by_cases h4:(oneT f [117,112,108,111,97,100,45,109,101,116,97,100,97,116,97]).2=9
 · rw [if_pos h4] at hr
   cases hr
   (repeat' (first|refine ja ?_ ?_|intro _))<;>first|omega|exact jb|exact jc ‹False›|skip
   all_goals first
    |omega
    |assumption
    |exact hs
    |exact hf.1
    |(exact(hf.2 _ ‹_›).1)
    |(exact(hf.2 _ ‹_›).2)
    |(simp only [jh,ji];omega)
    |(simp_all;done)
    |(exfalso;simp_all;done)
    |(simp only [wrtL,wrtN,wrtB,if_neg h5];done)
 rw [if_neg h4] at hr;generalize(oneT f [117,112,108,111,97,100,45,109,101,116,97,100,97,116,97]).1=mt at *;generalize zS f [117,112,108,111,97,100,45,108,101,110,103,116,104]=nv at *
 by_cases h5:wrtC l n b ⟨1,n+1,nv,mt⟩=0
 · rw [if_neg (fun h=>h h5)] at hr
   cases hr;simp only [h5,if_true] at *
   (repeat' (first|refine ja ?_ ?_|intro _))<;>first|omega|exact jb|exact jc ‹False›|skip
   all_goals first
    |omega
    |assumption
    |exact hs
    |exact hf.1
    |(exact(hf.2 _ ‹_›).1)
    |(exact(hf.2 _ ‹_›).2)
    |(simp only [jh,ji];omega)
    |(simp_all;done)
    |(exfalso;simp_all;done)
    |(simp only [wrtL,wrtN,wrtB,if_neg h5];done)
 · rw [if_pos h5] at hr
   cases hr
   (repeat' (first|refine ja ?_ ?_|intro _))<;>first|omega|exact jb|exact jc ‹False›|skip
   all_goals first
    |omega
    |assumption
    |exact hs
    |exact hf.1
    |(exact(hf.2 _ ‹_›).1)
    |(exact(hf.2 _ ‹_›).2)
    |(simp only [jh,ji];omega)
    |(simp_all;done)
    |(exfalso;simp_all;done)
    |(simp only [wrtL,wrtN,wrtB,if_neg h5];done)
def Zf:Know Tryz.prog:=⟨129,YQ,zb6⟩
def Ze:Know Tryz.prog:=⟨129,fun I=>zy I (YQ I),zf zb6⟩
theorem zvK (m t:Str) (mi:Int) (f:List Fld) (le:Int) (l:List Upl) (n:Int) (b:Str) (s:Int) (hneed:zK l n∧uplB ⟨l,n,b,s⟩ t=true):Spc Tryz.prog 130 [.v (.one (.ptr 0 0))] [.obj 170 [(.ptr 1 0),(.p (.str m)),(.p (.str t)),(.p (.int .i64 mi)),(.p (.list .fld f)),(.p (.int .i64 le))],.pack [.obj 54 [(.ptr 1 0),(.ptr 2 0)],.pack [.obj 124 [(.row 1),(.p (.int .i64 n))],.row .upl 81 l],.pack [.obj 156 [(.row 1),(.p (.int .i64 s))],.row .byte 5 b]]] (.ret (.v (.agg [(.p (.int .i64 ((getU l (idV t)).id))),(.p (.int .i64 ((getU l (idV t)).size))),(.p (.str ((getU l (idV t)).note))),(.p (.list .byte ((getU l (idV t)).bytes))),(.p (.int .i64 ((getU l (idV t)).sent)))]))) [.obj 170 [(.ptr 1 0),(.p (.str m)),(.p (.str t)),(.p (.int .i64 mi)),(.p (.list .fld f)),(.p (.int .i64 le))],.pack [.obj 54 [(.ptr 1 0),(.ptr 2 0)],.pack [.obj 124 [(.row 1),(.p (.int .i64 n))],.row .upl 81 l],.pack [.obj 156 [(.row 1),(.p (.int .i64 s))],.row .byte 5 b]]]:=by
 obtain⟨hs,hu⟩:=hneed;have hnn:=uF (t.drop 7);have hnx:=uF (Lib.trimPrefix t xh)
 have htp:Lib.hasPrefix t xh=true→Lib.trimPrefix t xh=t.drop 7:=fun h=>by unfold Lib.trimPrefix;rw [if_pos h];rfl
 unfold uplB idB idV at hu
 try unfold idV
 refine spcG zh mixed Tryz.func130 (by kernel_rfl) { cfgT with keep:=some [0,2,3,4,5,6,7]} [rE,rD,Zv,Zu,XU,XT,SL,SK,zU,zT,wK,wJ] (by kernel_rfl) ?_
 intro I X hI hX
 refine orcL ?_;go_invoke;refine orcS (by kernel_rfl) ?_
 simp only [zq,Nat.reduceAdd];subst hI;rw [show([47,102,105,108,101,115,47]:Str)=xh from rfl];simp only [nrmA,nrmB,nrlB,reduceCtorEq,HO.pack.injEq,HO.obj.injEq];generalize Lib.hasPrefix t xh=hb at *
 cases hb with
 | true=>
   rw [htp rfl] at *;generalize t.drop 7=tt at *;generalize numA tt 10 9=na at *;obtain⟨nv,ok⟩:=na;simp only [Bool.true_and] at *
   (repeat' (first|refine ja ?_ ?_|intro _))<;>first|omega|exact jb|exact jc ‹False›|skip
   all_goals first|omega|assumption|exact hs|(simp_all;done)|trace_state
 | false=>
   simp only [Bool.false_and] at *
   (repeat' (first|refine ja ?_ ?_|intro _))<;>first|omega|exact jb|exact jc ‹False›|skip
   all_goals first|omega|assumption|exact hs|(simp_all;done)|trace_state
theorem zvJ (m t:Str) (mi:Int) (f:List Fld) (le:Int) (l:List Upl) (n:Int) (b:Str) (s:Int) (hneed:zK l n∧uplB ⟨l,n,b,s⟩ t=false):Spc Tryz.prog 130 [.v (.one (.ptr 0 0))] [.obj 170 [(.ptr 1 0),(.p (.str m)),(.p (.str t)),(.p (.int .i64 mi)),(.p (.list .fld f)),(.p (.int .i64 le))],.pack [.obj 54 [(.ptr 1 0),(.ptr 2 0)],.pack [.obj 124 [(.row 1),(.p (.int .i64 n))],.row .upl 81 l],.pack [.obj 156 [(.row 1),(.p (.int .i64 s))],.row .byte 5 b]]] (.pan (.ifc 165 true [(.int .i64 404),(.list .fld ([])),(.list .byte ([]))])) [.obj 170 [(.ptr 1 0),(.p (.str m)),(.p (.str t)),(.p (.int .i64 mi)),(.p (.list .fld f)),(.p (.int .i64 le))],.pack [.obj 54 [(.ptr 1 0),(.ptr 2 0)],.pack [.obj 124 [(.row 1),(.p (.int .i64 n))],.row .upl 81 l],.pack [.obj 156 [(.row 1),(.p (.int .i64 s))],.row .byte 5 b]]]:=by
 obtain⟨hs,hu⟩:=hneed;have hnn:=uF (t.drop 7);have hnx:=uF (Lib.trimPrefix t xh)
 have htp:Lib.hasPrefix t xh=true→Lib.trimPrefix t xh=t.drop 7:=fun h=>by unfold Lib.trimPrefix;rw [if_pos h];rfl
 unfold uplB idB idV at hu
 try unfold idV
 refine spcG zh mixed Tryz.func130 (by kernel_rfl) { cfgT with keep:=some [0,2,3,4,5,6,7]} [rE,rD,Zv,Zu,XU,XT,SL,SK,zU,zT,wK,wJ] (by kernel_rfl) ?_
 intro I X hI hX
 refine orcL ?_;go_invoke;refine orcS (by kernel_rfl) ?_
 simp only [zq,Nat.reduceAdd];subst hI;rw [show([47,102,105,108,101,115,47]:Str)=xh from rfl];simp only [nrmA,nrmB,nrlB,reduceCtorEq,HO.pack.injEq,HO.obj.injEq];generalize Lib.hasPrefix t xh=hb at *
 cases hb with
 | true=>
   rw [htp rfl] at *;generalize t.drop 7=tt at *;generalize numA tt 10 9=na at *;obtain⟨nv,ok⟩:=na;simp only [Bool.true_and] at *
   (repeat' (first|refine ja ?_ ?_|intro _))<;>first|omega|exact jb|exact jc ‹False›|skip
   all_goals first|omega|assumption|exact hs|(simp_all;done)|trace_state
 | false=>
   simp only [Bool.false_and] at *
   (repeat' (first|refine ja ?_ ?_|intro _))<;>first|omega|exact jb|exact jc ‹False›|skip
   all_goals first|omega|assumption|exact hs|(simp_all;done)|trace_state
def zdD (I:Alg) (args:List D) (hp:List HO):Option CT:=match args,hp with
 |[.v (.one (.ptr 0 0))],[.obj 170 [(.ptr 1 0),(.p (.str m)),(.p (.str t)),(.p (.int .i64 mi)),(.p (.list .fld f)),(.p (.int .i64 le))],.pack [.obj 54 [(.ptr 1 0),(.ptr 2 0)],.pack [.obj 124 [(.row 1),(.p (.int .i64 n))],.row .upl 81 l],.pack [.obj 156 [(.row 1),(.p (.int .i64 s))],.row .byte 5 b]]]=>(fun(m t:Str) (mi:Int) (f:List Fld) (le:Int) (l:List Upl) (n:Int) (b:Str) (s:Int)=>(some (.br (I.hid (uplB ⟨l,n,b,s⟩ t)) (.one ⟨I.hid (zK l n∧uplB ⟨l,n,b,s⟩ t=true),(.ret (.v (.agg [(.p (.int .i64 (I.hid ((getU l (idV t)).id)))),(.p (.int .i64 (I.hid ((getU l (idV t)).size)))),(.p (.str (I.hid ((getU l (idV t)).note)))),(.p (.list .byte (I.hid ((getU l (idV t)).bytes)))),(.p (.int .i64 (I.hid ((getU l (idV t)).sent))))]))),[.obj 170 [(.ptr 1 0),(.p (.str m)),(.p (.str t)),(.p (.int .i64 mi)),(.p (.list .fld f)),(.p (.int .i64 le))],.pack [.obj 54 [(.ptr 1 0),(.ptr 2 0)],.pack [.obj 124 [(.row 1),(.p (.int .i64 n))],.row .upl 81 l],.pack [.obj 156 [(.row 1),(.p (.int .i64 s))],.row .byte 5 b]]]⟩) (.one ⟨I.hid (zK l n∧uplB ⟨l,n,b,s⟩ t=false),(.pan (.ifc 165 true [(.int .i64 404),(.list .fld (I.hid ([]))),(.list .byte (I.hid ([])))])),[.obj 170 [(.ptr 1 0),(.p (.str m)),(.p (.str t)),(.p (.int .i64 mi)),(.p (.list .fld f)),(.p (.int .i64 le))],.pack [.obj 54 [(.ptr 1 0),(.ptr 2 0)],.pack [.obj 124 [(.row 1),(.p (.int .i64 n))],.row .upl 81 l],.pack [.obj 156 [(.row 1),(.p (.int .i64 s))],.row .byte 5 b]]]⟩)):Option CT)) m t mi f le l n b s
 |_,_=>none
theorem znh:zx Tryz.prog 130 (zdD alg):=by
 intro args hp r h;unfold zdD at h
 split at h
 · cases h;exact⟨fun _ hn=>zvK _ _ _ _ _ _ _ _ _ hn,fun _ hn=>zvJ _ _ _ _ _ _ _ _ _ hn⟩
 · cases h
def zau:Know Tryz.prog:=⟨130,zdD,znh⟩
def zat:Know Tryz.prog:=⟨130,fun I=>zy I (zdD I),zf znh⟩
def Ru (I:Alg) (args:List D) (hp:List HO):Option CT:=match args,hp with
 |[.v (.one (.ptr 0 0)),.v (.agg [(.p (.int .i64 ui)),(.p (.int .i64 uz)),(.p (.str uo)),(.p (.list .byte ub)),(.p (.int .i64 us))])],[.obj 170 [(.ptr 1 0),(.p (.str m)),(.p (.str t)),(.p (.int .i64 mi)),(.p (.list .fld f)),(.p (.int .i64 le))],.pack [.obj 54 [(.ptr 1 0),(.ptr 2 0)],.pack [.obj 124 [(.row 1),(.p (.int .i64 n))],.row .upl 81 l],.pack [.obj 156 [(.row 1),(.p (.int .i64 s))],.row .byte 5 b]]]=>(fun(m t:Str) (mi:Int) (f:List Fld) (le:Int) (l:List Upl) (n:Int) (b:Str) (s:Int) (ui uz:Int) (uo ub:Str) (us:Int)=>(some (.one ⟨I.hid (uz<1000000000∧ub.length<1000000),(.pan (.ifc 165 true [(.int .i64 200),(.list .fld (I.hid ((zbN ⟨ui,uz,uo,ub,us⟩)))),(.list .byte (I.hid ([])))])),[.obj 170 [(.ptr 1 0),(.p (.str m)),(.p (.str t)),(.p (.int .i64 mi)),(.p (.list .fld f)),(.p (.int .i64 le))],.pack [.obj 54 [(.ptr 1 0),(.ptr 2 0)],.pack [.obj 124 [(.row 1),(.p (.int .i64 n))],.row .upl 81 l],.pack [.obj 156 [(.row 1),(.p (.int .i64 s))],.row .byte 5 b]]]⟩):Option CT)) m t mi f le l n b s ui uz uo ub us
 |_,_=>none
theorem zjk:zx Tryz.prog 131 (Ru alg):=by
 intro args hp r h;unfold Ru at h;split at h<;>cases h
 rename_i ui uz uo ub us m t mi f le n l s b
 revert f l;intro(f:List Fld) (l:List Upl)
 simp only [CT.Good,zi];intro hneed;obtain⟨h1,h2⟩:=hneed;generalize hr:zbN ⟨ui,uz,uo,ub,us⟩=r;unfold zbN at hr;generalize hl:lenF ⟨ui,uz,uo,ub,us⟩=lf at hr;obtain⟨ln,lv⟩:=lf
 refine spcG zh mixed Tryz.func131 (by kernel_rfl) { cfgT with keep:=some [0,1,3,4]} [zU,zT,yJ,yI,wK,wJ,zt9,zt8] (by kernel_rfl) ?_
 intro I X hI hX
 refine orcL ?_;go_invoke;refine orcS (by kernel_rfl) ?_
 simp only [zq,Nat.reduceAdd];subst hI;simp only at hr;simp only [nrmA,nrmB,nrlB,reduceCtorEq,HO.pack.injEq,HO.obj.injEq];rw [hl]
 (repeat' (first|refine ja ?_ ?_|intro _))<;>first|omega|exact jb|exact jc ‹False›|skip
 all_goals first|omega|with_reducible assumption|(subst hr;simp_all;done)|(subst hr;(simp_all [zan,zwX,zwi,zlQ]);done)|trace_state
def Ws:Know Tryz.prog:=⟨131,Ru,zjk⟩
def Wq:Know Tryz.prog:=⟨131,fun I=>zy I (Ru I),zf zjk⟩
end Go.Proofs.YtkjepecoodjbmaaGreatDoor
namespace Go.Proofs.YtkjepecoodjbmaaGreatDoor
open Go Go.Sep Go.Ab
set_option maxRecDepth 100000
theorem Zc {l:List Upl} {n:Int} {b:Str} {e:Ent} (h:e.kind≠1):wrtN l n b e=n:=by
 unfold wrtN U4;rw [if_neg h]
 split<;>rfl
def Wv (I:Alg) (args:List D) (hp:List HO):Option CT:=match args,hp with
 |[.v (.one (.ptr 0 0)),.v (.agg [(.p (.int .i64 ui)),(.p (.int .i64 uz)),(.p (.str uo)),(.p (.list .byte ub)),(.p (.int .i64 us))]),.v (.one (.p (.list .byte body)))],[.obj 170 [(.ptr 1 0),(.p (.str m)),(.p (.str t)),(.p (.int .i64 mi)),(.p (.list .fld f)),(.p (.int .i64 le))],.pack [.obj 54 [(.ptr 1 0),(.ptr 2 0)],.pack [.obj 124 [(.row 1),(.p (.int .i64 n))],.row .upl 81 l],.pack [.obj 156 [(.row 1),(.p (.int .i64 s))],.row .byte 5 b]]]=>(fun(m t:Str) (mi:Int) (f:List Fld) (le:Int) (l:List Upl) (n:Int) (b:Str) (s:Int) (ui uz:Int) (uo ub:Str) (us:Int) (body:Str)=>(some (.one ⟨I.hid (FOk f∧zK l n∧n≤200000∧b.length≤100000∧body.length≤100000∧ub.length≤1000000∧uz≤1000000),(.pan (.ifc 165 true [(.int .i64 (I.hid ((vG ⟨l,n,b,s⟩ ⟨ui,uz,uo,ub,us⟩ f body).st))),(.list .fld (I.hid ((vG ⟨l,n,b,s⟩ ⟨ui,uz,uo,ub,us⟩ f body).fs))),(.list .byte (I.hid ([])))])),[.obj 170 [(.ptr 1 0),(.p (.str m)),(.p (.str t)),(.p (.int .i64 mi)),(.p (.list .fld f)),(.p (.int .i64 le))],.pack [.obj 54 [(.ptr 1 0),(.ptr 2 0)],.pack [.obj 124 [(.row 1),(.p (.int .i64 (I.hid ((vG ⟨l,n,b,s⟩ ⟨ui,uz,uo,ub,us⟩ f body).q.n))))],.row .upl 81 (I.hid ((vG ⟨l,n,b,s⟩ ⟨ui,uz,uo,ub,us⟩ f body).q.l))],.pack [.obj 156 [(.row 1),(.p (.int .i64 (I.hid ((vG ⟨l,n,b,s⟩ ⟨ui,uz,uo,ub,us⟩ f body).q.s))))],.row .byte 5 (I.hid ((vG ⟨l,n,b,s⟩ ⟨ui,uz,uo,ub,us⟩ f body).q.b))]]]⟩):Option CT)) m t mi f le l n b s ui uz uo ub us body
 |_,_=>none
set_option maxHeartbeats 8000000 in
theorem zfe:zx Tryz.prog 132 (Wv alg):=by
 intro args hp r h;unfold Wv at h;split at h<;>cases h
 rename_i ui uz uo ub us body m t mi f le n l s b
 revert f l;intro(f:List Fld) (l:List Upl)
 simp only [CT.Good,zi];intro hneed;obtain⟨hf,hs,hn,hb,hbl,hub,huz⟩:=hneed;have hn0:=hs.n0;have hcm:=Zj f ZM;have hol:=zee hf ZM;have hs2:=zah hs b (apE ui body)
 have hnn:wrtN l n b (apE ui body)=n:=Zc (by simp [apE])
 have hbb:=Zm (l:=l) (n:=n) (b:=b) (apE ui body) hb;generalize hr:vG ⟨l,n,b,s⟩ ⟨ui,uz,uo,ub,us⟩ f body=r;obtain⟨st,fs,⟨l',n',b',s'⟩⟩:=r;unfold vG wsC wsS syS at hr;simp only at hr
 refine spcG zh mixed Tryz.func132 (by kernel_rfl) { cfgT with seam:=[5,10,17],keep:=some [0,1,2,4,6,8,9,10,11]} [vI,vH,xB,xA,xw,xu,zO,zN,xq,xk,zU,zT,yJ,yI,wK,wJ,wI,wH,sF,sD,vS,vP] (by kernel_rfl) ?_
 intro I X hI hX
 refine orcL ?_;go_invoke;refine orcS (by kernel_rfl) ?_
 simp only [zq,Nat.reduceAdd]
 have hh: ∀ {α:Type} (x:α),I.hid x=x:=by subst hI;intros;rfl
 have key17: ∀ (nv sz:Int),nv=(ub.length:Int)→(if(if apG l ui nv then 17 else wrtC l n b (apE ui body))≠0 then(⟨WE (if apG l ui nv then 17 else wrtC l n b (apE ui body)),[],⟨l,n,b,s⟩⟩:TA)
  else if 0≤sz∧uz<0 then
   if wrtC (wrtL l n b (apE ui body)) (wrtN l n b (apE ui body)) (wrtB l n b (apE ui body)) ⟨3,ui,sz,[]⟩≠0 then(⟨WE (wrtC (wrtL l n b (apE ui body)) (wrtN l n b (apE ui body)) (wrtB l n b (apE ui body)) ⟨3,ui,sz,[]⟩),[],⟨wrtL l n b (apE ui body),wrtN l n b (apE ui body),wrtB l n b (apE ui body),s⟩⟩:TA)
   else(⟨204,[⟨zan,decS (nv+(body.length:Int))⟩],⟨wrtL (wrtL l n b (apE ui body)) (wrtN l n b (apE ui body)) (wrtB l n b (apE ui body)) ⟨3,ui,sz,[]⟩,wrtN (wrtL l n b (apE ui body)) (wrtN l n b (apE ui body)) (wrtB l n b (apE ui body)) ⟨3,ui,sz,[]⟩,wrtB (wrtL l n b (apE ui body)) (wrtN l n b (apE ui body)) (wrtB l n b (apE ui body)) ⟨3,ui,sz,[]⟩,((wrtB (wrtL l n b (apE ui body)) (wrtN l n b (apE ui body)) (wrtB l n b (apE ui body)) ⟨3,ui,sz,[]⟩).length:Int)⟩⟩:TA)
  else(⟨204,[⟨zan,decS (nv+(body.length:Int))⟩],⟨wrtL l n b (apE ui body),wrtN l n b (apE ui body),wrtB l n b (apE ui body),((wrtB l n b (apE ui body)).length:Int)⟩⟩:TA))=⟨st,fs,⟨l',n',b',s'⟩⟩→Ok Tryz.prog X (fun o h=>o=AOut.pan (C.ifc 165 true [P.int IntKind.i64 st,P.list U.fld fs,P.list U.byte []])∧h=[HO.obj 170 [C.ptr 1 0,C.p (P.str m),C.p (P.str t),C.p (P.int IntKind.i64 mi),C.p (P.list U.fld f),C.p (P.int IntKind.i64 le)],HO.pack [HO.obj 54 [C.ptr 1 0,C.ptr 2 0],HO.pack [HO.obj 124 [C.row 1,C.p (P.int IntKind.i64 n')],HO.row U.upl 81 l'],HO.pack [HO.obj 156 [C.row 1,C.p (P.int IntKind.i64 s')],HO.row U.byte 5 b']]]) (go I tab { cfgT with seam:=[5,10,17],keep:=some [0,1,2,4,6,8,9,10,11]} [vI,vH,xB,xA,xw,xu,zO,zN,xq,xk,zU,zT,yJ,yI,wK,wJ,wI,wH,sF,sD,vS,vP] [⟨um Tryz.f132,finK I tab { cfgT with seam:=[5,10,17],keep:=some [0,1,2,4,6,8,9,10,11]} 2 Tryz.f132⟩] 0 [1,1,1,1,1,1,1,1,0] ⟨[(0,.v (.one (.ptr 0 0))),(1,.v (.agg [(.p (.int .i64 ui)),(.p (.int .i64 uz)),(.p (.str uo)),(.p (.list .byte ub)),(.p (.int .i64 us))])),(2,.v (.one (.p (.list .byte body)))),(4,.v (.one (.ptr 2 0))),(10,.v (.one (.p (.int .i64 nv)))),(11,.v (.one (.p (.int .i64 sz))))],[.obj 170 [(.ptr 1 0),(.p (.str m)),(.p (.str t)),(.p (.int .i64 mi)),(.p (.list .fld f)),(.p (.int .i64 le))],.pack [.obj 54 [(.ptr 1 0),(.ptr 2 0)],.pack [.obj 124 [(.row 1),(.p (.int .i64 n))],.row .upl 81 l],.pack [.obj 156 [(.row 1),(.p (.int .i64 s))],.row .byte 5 b]],.pack [.obj 81 [(.p (.int .i64 ui)),(.p (.int .i64 uz)),(.p (.str uo)),(.p (.list .byte ub)),(.p (.int .i64 us))]]],131,none⟩):=by
  intro nv sz hnv hr
  refine orcL ?_;go_invoke;refine orcS (by kernel_rfl) ?_
  simp only [zq,Nat.reduceAdd];clear hX hcm hol;unfold zan at hr;unfold apE at *;subst hI;simp only [nrmA,nrmB,nrlB,reduceCtorEq,HO.pack.injEq,HO.obj.injEq]
  by_cases hg:apG l ui nv=true
  · simp only [hg,if_true] at hr ⊢
    rw [if_pos (by decide)] at hr
    clear hs2 hnn hbb;simp only [TA.mk.injEq,Sto.mk.injEq] at hr;obtain⟨q1,q2,q3,q4,q5,q6⟩:=hr;subst q1 q2 q3 q4 q5 q6;simp only [nrmA,nrmB,nrlB,reduceCtorEq,HO.pack.injEq,HO.obj.injEq,decide_true,decide_false,je,jd,forall_const,false_implies,true_implies,jf,jg]
    (repeat' (first|refine ja ?_ ?_|intro _))<;>first|omega|exact jb|exact jc ‹False›|skip
    all_goals first
     |with_reducible rfl
     |with_reducible assumption
     |omega
     |exact hs
     |exact hf.1
     |(exact(hf.2 _ ‹_›).1)
     |(exact(hf.2 _ ‹_›).2)
     |exact⟨hf,by decide⟩
     |exact⟨⟨hf,by decide⟩,by assumption⟩
     |(simp only [jh,ji];omega)
     |(exfalso;simp_all;done)
  simp only [hg,jd,if_false] at hr ⊢;clear hg
  by_cases h1:wrtC l n b ⟨2,ui,0,body⟩=0
  · rw [if_neg (fun h=>h h1)] at hr
    simp only [h1] at ⊢
    clear h1;generalize wrtL l n b ⟨2,ui,0,body⟩=l2 at *;generalize wrtN l n b ⟨2,ui,0,body⟩=n2 at *;generalize wrtB l n b ⟨2,ui,0,body⟩=b2 at *
    by_cases h2:0≤sz∧uz<0
    · rw [if_pos h2] at hr
      by_cases h3:wrtC l2 n2 b2 ⟨3,ui,sz,[]⟩=0
      · rw [if_neg (fun h=>h h3)] at hr
        simp only [TA.mk.injEq,Sto.mk.injEq] at hr;obtain⟨q1,q2,q3,q4,q5,q6⟩:=hr;subst q1 q2 q3 q4 q5 q6
        simp only [h3] at ⊢
        clear h3;simp only [nrmA,nrmB,nrlB,reduceCtorEq,HO.pack.injEq,HO.obj.injEq,decide_true,decide_false,je,jd,forall_const,false_implies,true_implies,jf,jg]
        (repeat' (first|refine ja ?_ ?_|intro _))<;>first|omega|exact jb|exact jc ‹False›|skip
        all_goals first
         |with_reducible rfl
         |with_reducible assumption
         |omega
         |exact hs
         |exact hf.1
         |(exact(hf.2 _ ‹_›).1)
         |(exact(hf.2 _ ‹_›).2)
         |exact⟨hf,by decide⟩
         |exact⟨⟨hf,by decide⟩,by assumption⟩
         |(simp only [jh,ji];omega)
         |(exfalso;simp_all;done)
      · rw [if_pos h3] at hr
        simp only [TA.mk.injEq,Sto.mk.injEq] at hr;obtain⟨q1,q2,q3,q4,q5,q6⟩:=hr;subst q1 q2 q3 q4 q5 q6
        have e1:wrtL l2 n2 b2 ⟨3,ui,sz,[]⟩=l2:=by simp only [wrtL,if_neg h3]
        have e2:wrtN l2 n2 b2 ⟨3,ui,sz,[]⟩=n2:=by simp only [wrtN,if_neg h3]
        have e3:wrtB l2 n2 b2 ⟨3,ui,sz,[]⟩=b2:=by simp only [wrtB,if_neg h3]
        rw [e1,e2,e3];clear e1 e2 e3;generalize wrtC l2 n2 b2 ⟨3,ui,sz,[]⟩=c3 at *;simp only [nrmA,nrmB,nrlB,reduceCtorEq,HO.pack.injEq,HO.obj.injEq,decide_true,decide_false,je,jd,forall_const,false_implies,true_implies,jf,jg,h3]
        (repeat' (first|refine ja ?_ ?_|intro _))<;>first|omega|exact jb|exact jc ‹False›|skip
        all_goals first
         |with_reducible rfl
         |with_reducible assumption
         |omega
         |exact hs
         |exact hf.1
         |(exact(hf.2 _ ‹_›).1)
         |(exact(hf.2 _ ‹_›).2)
         |exact⟨hf,by decide⟩
         |exact⟨⟨hf,by decide⟩,by assumption⟩
         |(simp only [jh,ji];omega)
         |(exfalso;simp_all;done)
    · rw [if_neg h2] at hr
      simp only [TA.mk.injEq,Sto.mk.injEq] at hr;obtain⟨q1,q2,q3,q4,q5,q6⟩:=hr;subst q1 q2 q3 q4 q5 q6;simp only [nrmA,nrmB,nrlB,reduceCtorEq,HO.pack.injEq,HO.obj.injEq,decide_true,decide_false,je,jd,forall_const,false_implies,true_implies,jf,jg]
      (repeat' (first|refine ja ?_ ?_|intro _))<;>first|omega|exact jb|exact jc ‹False›|skip
      all_goals first
       |with_reducible rfl
       |with_reducible assumption
       |omega
       |exact hs
       |exact hf.1
       |(exact(hf.2 _ ‹_›).1)
       |(exact(hf.2 _ ‹_›).2)
       |exact⟨hf,by decide⟩
       |exact⟨⟨hf,by decide⟩,by assumption⟩
       |(simp only [jh,ji];omega)
       |(exfalso;simp_all;done)
  · rw [if_pos h1] at hr
    simp only [TA.mk.injEq,Sto.mk.injEq] at hr;obtain⟨q1,q2,q3,q4,q5,q6⟩:=hr;subst q1 q2 q3 q4 q5 q6
    have e1:wrtL l n b ⟨2,ui,0,body⟩=l:=by simp only [wrtL,if_neg h1]
    have e2:wrtN l n b ⟨2,ui,0,body⟩=n:=by simp only [wrtN,if_neg h1]
    have e3:wrtB l n b ⟨2,ui,0,body⟩=b:=by simp only [wrtB,if_neg h1]
    rw [e1,e2,e3];clear e1 e2 e3 hs2 hnn hbb;generalize wrtC l n b ⟨2,ui,0,body⟩=c2 at *;simp only [nrmA,nrmB,nrlB,reduceCtorEq,HO.pack.injEq,HO.obj.injEq,decide_true,decide_false,je,jd,forall_const,false_implies,true_implies,jf,jg,h1]
    (repeat' (first|refine ja ?_ ?_|intro _))<;>first|omega|exact jb|exact jc ‹False›|skip
    all_goals first
     |with_reducible rfl
     |with_reducible assumption
     |omega
     |exact hs
     |exact hf.1
     |(exact(hf.2 _ ‹_›).1)
     |(exact(hf.2 _ ‹_›).2)
     |exact⟨hf,by decide⟩
     |exact⟨⟨hf,by decide⟩,by assumption⟩
     |(simp only [jh,ji];omega)
     |(exfalso;simp_all;done)
 have key10: ∀ (nv:Int),nv=(ub.length:Int)→(if XF f yV=false then(⟨400,[],⟨l,n,b,s⟩⟩:TA)
  else if 0≤zS f yV∧0≤uz∧zS f yV≠uz then(⟨400,[],⟨l,n,b,s⟩⟩:TA)
  else if 0≤zS f yV∧uz<0∧(2000<zS f yV∨zS f yV<nv+(body.length:Int)) then(⟨413,[],⟨l,n,b,s⟩⟩:TA)
  else if UY b ((body.length:Int)+60)=false then(⟨507,[],⟨l,n,b,s⟩⟩:TA)
  else(if(if apG l ui nv then 17 else wrtC l n b (apE ui body))≠0 then(⟨WE (if apG l ui nv then 17 else wrtC l n b (apE ui body)),[],⟨l,n,b,s⟩⟩:TA)
  else if 0≤(zS f yV)∧uz<0 then
   if wrtC (wrtL l n b (apE ui body)) (wrtN l n b (apE ui body)) (wrtB l n b (apE ui body)) ⟨3,ui,(zS f yV),[]⟩≠0 then(⟨WE (wrtC (wrtL l n b (apE ui body)) (wrtN l n b (apE ui body)) (wrtB l n b (apE ui body)) ⟨3,ui,(zS f yV),[]⟩),[],⟨wrtL l n b (apE ui body),wrtN l n b (apE ui body),wrtB l n b (apE ui body),s⟩⟩:TA)
   else(⟨204,[⟨zan,decS (nv+(body.length:Int))⟩],⟨wrtL (wrtL l n b (apE ui body)) (wrtN l n b (apE ui body)) (wrtB l n b (apE ui body)) ⟨3,ui,(zS f yV),[]⟩,wrtN (wrtL l n b (apE ui body)) (wrtN l n b (apE ui body)) (wrtB l n b (apE ui body)) ⟨3,ui,(zS f yV),[]⟩,wrtB (wrtL l n b (apE ui body)) (wrtN l n b (apE ui body)) (wrtB l n b (apE ui body)) ⟨3,ui,(zS f yV),[]⟩,((wrtB (wrtL l n b (apE ui body)) (wrtN l n b (apE ui body)) (wrtB l n b (apE ui body)) ⟨3,ui,(zS f yV),[]⟩).length:Int)⟩⟩:TA)
  else(⟨204,[⟨zan,decS (nv+(body.length:Int))⟩],⟨wrtL l n b (apE ui body),wrtN l n b (apE ui body),wrtB l n b (apE ui body),((wrtB l n b (apE ui body)).length:Int)⟩⟩:TA)))=⟨st,fs,⟨l',n',b',s'⟩⟩→Ok Tryz.prog X (fun o h=>o=AOut.pan (C.ifc 165 true [P.int IntKind.i64 st,P.list U.fld fs,P.list U.byte []])∧h=[HO.obj 170 [C.ptr 1 0,C.p (P.str m),C.p (P.str t),C.p (P.int IntKind.i64 mi),C.p (P.list U.fld f),C.p (P.int IntKind.i64 le)],HO.pack [HO.obj 54 [C.ptr 1 0,C.ptr 2 0],HO.pack [HO.obj 124 [C.row 1,C.p (P.int IntKind.i64 n')],HO.row U.upl 81 l'],HO.pack [HO.obj 156 [C.row 1,C.p (P.int IntKind.i64 s')],HO.row U.byte 5 b']]]) (go I tab { cfgT with seam:=[5,10,17],keep:=some [0,1,2,4,6,8,9,10,11]} [vI,vH,xB,xA,xw,xu,zO,zN,xq,xk,zU,zT,yJ,yI,wK,wJ,wI,wH,sF,sD,vS,vP] [⟨um Tryz.f132,finK I tab { cfgT with seam:=[5,10,17],keep:=some [0,1,2,4,6,8,9,10,11]} 2 Tryz.f132⟩] 0 [1,1,1,1,1,1,0] ⟨[(0,.v (.one (.ptr 0 0))),(1,.v (.agg [(.p (.int .i64 ui)),(.p (.int .i64 uz)),(.p (.str uo)),(.p (.list .byte ub)),(.p (.int .i64 us))])),(2,.v (.one (.p (.list .byte body)))),(4,.v (.one (.ptr 2 0))),(10,.v (.one (.p (.int .i64 nv))))],[.obj 170 [(.ptr 1 0),(.p (.str m)),(.p (.str t)),(.p (.int .i64 mi)),(.p (.list .fld f)),(.p (.int .i64 le))],.pack [.obj 54 [(.ptr 1 0),(.ptr 2 0)],.pack [.obj 124 [(.row 1),(.p (.int .i64 n))],.row .upl 81 l],.pack [.obj 156 [(.row 1),(.p (.int .i64 s))],.row .byte 5 b]],.pack [.obj 81 [(.p (.int .i64 ui)),(.p (.int .i64 uz)),(.p (.str uo)),(.p (.list .byte ub)),(.p (.int .i64 us))]]],131,none⟩):=by
  intro nv hnv hr
  refine orcL ?_;go_invoke;refine orcS (by kernel_rfl) ?_
  simp only [zq,Nat.reduceAdd];clear hcm hol hs2 hnn hbb;subst hI;unfold yV at *;simp only [nrmA,nrmB,nrlB,reduceCtorEq,HO.pack.injEq,HO.obj.injEq];generalize zS f [117,112,108,111,97,100,45,108,101,110,103,116,104]=sz at *
  by_cases hd1:XF f [117,112,108,111,97,100,45,108,101,110,103,116,104]=false
  · rw [if_pos hd1] at hr
    simp only [TA.mk.injEq,Sto.mk.injEq] at hr;obtain⟨q1,q2,q3,q4,q5,q6⟩:=hr;subst q1 q2 q3 q4 q5 q6;simp only [nrmA,nrmB,nrlB,reduceCtorEq,HO.pack.injEq,HO.obj.injEq,decide_true,decide_false,je,jd,forall_const,false_implies,true_implies,jf,jg,hd1]
    (repeat' (first|refine ja ?_ ?_|intro _))<;>first|omega|exact jb|exact jc ‹False›|skip
    all_goals first
     |with_reducible rfl
     |with_reducible assumption
     |omega
     |exact hs
     |exact hf.1
     |(exact(hf.2 _ ‹_›).1)
     |(exact(hf.2 _ ‹_›).2)
     |exact⟨hf,by decide⟩
     |exact⟨⟨hf,by decide⟩,by assumption⟩
     |(simp only [jh,ji];omega)
     |(exfalso;simp_all;done)
  rw [if_neg hd1] at hr
  try simp only [Bool.not_eq_false] at hd1
  simp only [nrmA,nrmB,nrlB,reduceCtorEq,HO.pack.injEq,HO.obj.injEq,decide_true,decide_false,je,jd,forall_const,false_implies,true_implies,jf,jg,hd1]
  by_cases hd2:0≤sz∧0≤uz∧sz≠uz
  · rw [if_pos hd2] at hr
    simp only [TA.mk.injEq,Sto.mk.injEq] at hr;obtain⟨q1,q2,q3,q4,q5,q6⟩:=hr;subst q1 q2 q3 q4 q5 q6
    (repeat' (first|refine ja ?_ ?_|intro _))<;>first|omega|exact jb|exact jc ‹False›|skip
    all_goals first
     |with_reducible rfl
     |with_reducible assumption
     |omega
     |exact hs
     |exact hf.1
     |(exact(hf.2 _ ‹_›).1)
     |(exact(hf.2 _ ‹_›).2)
     |exact⟨hf,by decide⟩
     |exact⟨⟨hf,by decide⟩,by assumption⟩
     |(simp only [jh,ji];omega)
     |(exfalso;simp_all;done)
  rw [if_neg hd2] at hr
  by_cases hd3:0≤sz∧uz<0∧(2000<sz∨sz<nv+(body.length:Int))
  · rw [if_pos hd3] at hr
    simp only [TA.mk.injEq,Sto.mk.injEq] at hr;obtain⟨q1,q2,q3,q4,q5,q6⟩:=hr;subst q1 q2 q3 q4 q5 q6
    (repeat' (first|refine ja ?_ ?_|intro _))<;>first|omega|exact jb|exact jc ‹False›|skip
    all_goals first
     |with_reducible rfl
     |with_reducible assumption
     |omega
     |exact hs
     |exact hf.1
     |(exact(hf.2 _ ‹_›).1)
     |(exact(hf.2 _ ‹_›).2)
     |exact⟨hf,by decide⟩
     |exact⟨⟨hf,by decide⟩,by assumption⟩
     |(simp only [jh,ji];omega)
     |(exfalso;simp_all;done)
  rw [if_neg hd3] at hr
  by_cases hd4:UY b ((body.length:Int)+60)=false
  · rw [if_pos hd4] at hr
    simp only [TA.mk.injEq,Sto.mk.injEq] at hr;obtain⟨q1,q2,q3,q4,q5,q6⟩:=hr;subst q1 q2 q3 q4 q5 q6;simp only [nrmA,nrmB,nrlB,reduceCtorEq,HO.pack.injEq,HO.obj.injEq,decide_true,decide_false,je,jd,forall_const,false_implies,true_implies,jf,jg,hd4]
    (repeat' (first|refine ja ?_ ?_|intro _))<;>first|omega|exact jb|exact jc ‹False›|skip
    all_goals first
     |with_reducible rfl
     |with_reducible assumption
     |omega
     |exact hs
     |exact hf.1
     |(exact(hf.2 _ ‹_›).1)
     |(exact(hf.2 _ ‹_›).2)
     |exact⟨hf,by decide⟩
     |exact⟨⟨hf,by decide⟩,by assumption⟩
     |(simp only [jh,ji];omega)
     |(exfalso;simp_all;done)
  rw [if_neg hd4] at hr
  try simp only [Bool.not_eq_false] at hd4
  simp only [nrmA,nrmB,nrlB,reduceCtorEq,HO.pack.injEq,HO.obj.injEq,decide_true,decide_false,je,jd,forall_const,false_implies,true_implies,jf,jg,hd4]
  (repeat' (first|refine ja ?_ ?_|intro _))<;>first|omega|exact jb|exact jc ‹False›|skip
  all_goals first
   |(with_reducible show Ok _ _ _ _;(try(exfalso;omega));exact seam rfl zh mixed [vI,vH,xB,xA,xw,xu,zO,zN,xq,xk,zU,zT,yJ,yI,wK,wJ,wI,wH,sF,sD,vS,vP] hX [0,1,2,4,10,11] ⟨[(0,.v (.one (.ptr 0 0))),(1,.v (.agg [(.p (.int .i64 ui)),(.p (.int .i64 uz)),(.p (.str uo)),(.p (.list .byte ub)),(.p (.int .i64 us))])),(2,.v (.one (.p (.list .byte body)))),(4,.v (.one (.ptr 2 0))),(10,.v (.one (.p (.int .i64 nv)))),(11,.v (.one (.p (.int .i64 sz))))],[.obj 170 [(.ptr 1 0),(.p (.str m)),(.p (.str t)),(.p (.int .i64 mi)),(.p (.list .fld f)),(.p (.int .i64 le))],.pack [.obj 54 [(.ptr 1 0),(.ptr 2 0)],.pack [.obj 124 [(.row 1),(.p (.int .i64 n))],.row .upl 81 l],.pack [.obj 156 [(.row 1),(.p (.int .i64 s))],.row .byte 5 b]],.pack [.obj 81 [(.p (.int .i64 ui)),(.p (.int .i64 uz)),(.p (.str uo)),(.p (.list .byte ub)),(.p (.int .i64 us))]]],131,none⟩ (by kernel_rfl) (key17 nv sz hnv hr))
   |with_reducible rfl
   |with_reducible assumption
   |omega
   |exact hs
   |exact hf.1
   |(exact(hf.2 _ ‹_›).1)
   |(exact(hf.2 _ ‹_›).2)
   |exact⟨hf,by decide⟩
   |exact⟨⟨hf,by decide⟩,by assumption⟩
   |(simp only [jh,ji];omega)
   |(exfalso;simp_all;done)
 have key5: ∀ (_u:Unit),(if XF f qQ=false then(⟨400,[],⟨l,n,b,s⟩⟩:TA)
  else if zS f qQ<0 then(⟨400,[],⟨l,n,b,s⟩⟩:TA)
  else if zS f qQ≠(ub.length:Int) then(⟨409,[],⟨l,n,b,s⟩⟩:TA)
  else(if XF f yV=false then(⟨400,[],⟨l,n,b,s⟩⟩:TA)
  else if 0≤zS f yV∧0≤uz∧zS f yV≠uz then(⟨400,[],⟨l,n,b,s⟩⟩:TA)
  else if 0≤zS f yV∧uz<0∧(2000<zS f yV∨zS f yV<(zS f qQ)+(body.length:Int)) then(⟨413,[],⟨l,n,b,s⟩⟩:TA)
  else if UY b ((body.length:Int)+60)=false then(⟨507,[],⟨l,n,b,s⟩⟩:TA)
  else(if(if apG l ui (zS f qQ) then 17 else wrtC l n b (apE ui body))≠0 then(⟨WE (if apG l ui (zS f qQ) then 17 else wrtC l n b (apE ui body)),[],⟨l,n,b,s⟩⟩:TA)
  else if 0≤(zS f yV)∧uz<0 then
   if wrtC (wrtL l n b (apE ui body)) (wrtN l n b (apE ui body)) (wrtB l n b (apE ui body)) ⟨3,ui,(zS f yV),[]⟩≠0 then(⟨WE (wrtC (wrtL l n b (apE ui body)) (wrtN l n b (apE ui body)) (wrtB l n b (apE ui body)) ⟨3,ui,(zS f yV),[]⟩),[],⟨wrtL l n b (apE ui body),wrtN l n b (apE ui body),wrtB l n b (apE ui body),s⟩⟩:TA)
   else(⟨204,[⟨zan,decS ((zS f qQ)+(body.length:Int))⟩],⟨wrtL (wrtL l n b (apE ui body)) (wrtN l n b (apE ui body)) (wrtB l n b (apE ui body)) ⟨3,ui,(zS f yV),[]⟩,wrtN (wrtL l n b (apE ui body)) (wrtN l n b (apE ui body)) (wrtB l n b (apE ui body)) ⟨3,ui,(zS f yV),[]⟩,wrtB (wrtL l n b (apE ui body)) (wrtN l n b (apE ui body)) (wrtB l n b (apE ui body)) ⟨3,ui,(zS f yV),[]⟩,((wrtB (wrtL l n b (apE ui body)) (wrtN l n b (apE ui body)) (wrtB l n b (apE ui body)) ⟨3,ui,(zS f yV),[]⟩).length:Int)⟩⟩:TA)
  else(⟨204,[⟨zan,decS ((zS f qQ)+(body.length:Int))⟩],⟨wrtL l n b (apE ui body),wrtN l n b (apE ui body),wrtB l n b (apE ui body),((wrtB l n b (apE ui body)).length:Int)⟩⟩:TA))))=⟨st,fs,⟨l',n',b',s'⟩⟩→Ok Tryz.prog X (fun o h=>o=AOut.pan (C.ifc 165 true [P.int IntKind.i64 st,P.list U.fld fs,P.list U.byte []])∧h=[HO.obj 170 [C.ptr 1 0,C.p (P.str m),C.p (P.str t),C.p (P.int IntKind.i64 mi),C.p (P.list U.fld f),C.p (P.int IntKind.i64 le)],HO.pack [HO.obj 54 [C.ptr 1 0,C.ptr 2 0],HO.pack [HO.obj 124 [C.row 1,C.p (P.int IntKind.i64 n')],HO.row U.upl 81 l'],HO.pack [HO.obj 156 [C.row 1,C.p (P.int IntKind.i64 s')],HO.row U.byte 5 b']]]) (go I tab { cfgT with seam:=[5,10,17],keep:=some [0,1,2,4,6,8,9,10,11]} [vI,vH,xB,xA,xw,xu,zO,zN,xq,xk,zU,zT,yJ,yI,wK,wJ,wI,wH,sF,sD,vS,vP] [⟨um Tryz.f132,finK I tab { cfgT with seam:=[5,10,17],keep:=some [0,1,2,4,6,8,9,10,11]} 2 Tryz.f132⟩] 0 [1,1,1,1,0] ⟨[(0,.v (.one (.ptr 0 0))),(1,.v (.agg [(.p (.int .i64 ui)),(.p (.int .i64 uz)),(.p (.str uo)),(.p (.list .byte ub)),(.p (.int .i64 us))])),(2,.v (.one (.p (.list .byte body)))),(4,.v (.one (.ptr 2 0)))],[.obj 170 [(.ptr 1 0),(.p (.str m)),(.p (.str t)),(.p (.int .i64 mi)),(.p (.list .fld f)),(.p (.int .i64 le))],.pack [.obj 54 [(.ptr 1 0),(.ptr 2 0)],.pack [.obj 124 [(.row 1),(.p (.int .i64 n))],.row .upl 81 l],.pack [.obj 156 [(.row 1),(.p (.int .i64 s))],.row .byte 5 b]],.pack [.obj 81 [(.p (.int .i64 ui)),(.p (.int .i64 uz)),(.p (.str uo)),(.p (.list .byte ub)),(.p (.int .i64 us))]]],131,none⟩):=by
  intro _ hr
  refine orcL ?_;go_invoke;refine orcS (by kernel_rfl) ?_
  simp only [zq,Nat.reduceAdd];clear hcm hol hs2 hnn hbb key17;subst hI;unfold qQ at *;simp only [nrmA,nrmB,nrlB,reduceCtorEq,HO.pack.injEq,HO.obj.injEq];generalize zS f [117,112,108,111,97,100,45,111,102,102,115,101,116]=nv at *
  by_cases hd5:XF f [117,112,108,111,97,100,45,111,102,102,115,101,116]=false
  · rw [if_pos hd5] at hr
    simp only [TA.mk.injEq,Sto.mk.injEq] at hr;obtain⟨q1,q2,q3,q4,q5,q6⟩:=hr;subst q1 q2 q3 q4 q5 q6;simp only [nrmA,nrmB,nrlB,reduceCtorEq,HO.pack.injEq,HO.obj.injEq,decide_true,decide_false,je,jd,forall_const,false_implies,true_implies,jf,jg,hd5]
    (repeat' (first|refine ja ?_ ?_|intro _))<;>first|omega|exact jb|exact jc ‹False›|skip
    all_goals first
     |with_reducible rfl
     |with_reducible assumption
     |omega
     |exact hs
     |exact hf.1
     |(exact(hf.2 _ ‹_›).1)
     |(exact(hf.2 _ ‹_›).2)
     |exact⟨hf,by decide⟩
     |exact⟨⟨hf,by decide⟩,by assumption⟩
     |(simp only [jh,ji];omega)
     |(exfalso;simp_all;done)
  rw [if_neg hd5] at hr
  try simp only [Bool.not_eq_false] at hd5
  simp only [nrmA,nrmB,nrlB,reduceCtorEq,HO.pack.injEq,HO.obj.injEq,decide_true,decide_false,je,jd,forall_const,false_implies,true_implies,jf,jg,hd5]
  by_cases hd6:nv<0
  · rw [if_pos hd6] at hr
    simp only [TA.mk.injEq,Sto.mk.injEq] at hr;obtain⟨q1,q2,q3,q4,q5,q6⟩:=hr;subst q1 q2 q3 q4 q5 q6
    (repeat' (first|refine ja ?_ ?_|intro _))<;>first|omega|exact jb|exact jc ‹False›|skip
    all_goals first
     |with_reducible rfl
     |with_reducible assumption
     |omega
     |exact hs
     |exact hf.1
     |(exact(hf.2 _ ‹_›).1)
     |(exact(hf.2 _ ‹_›).2)
     |exact⟨hf,by decide⟩
     |exact⟨⟨hf,by decide⟩,by assumption⟩
     |(simp only [jh,ji];omega)
     |(exfalso;simp_all;done)
  rw [if_neg hd6] at hr
  by_cases hd7:nv≠(ub.length:Int)
  · rw [if_pos hd7] at hr
    simp only [TA.mk.injEq,Sto.mk.injEq] at hr;obtain⟨q1,q2,q3,q4,q5,q6⟩:=hr;subst q1 q2 q3 q4 q5 q6
    (repeat' (first|refine ja ?_ ?_|intro _))<;>first|omega|exact jb|exact jc ‹False›|skip
    all_goals first
     |with_reducible rfl
     |with_reducible assumption
     |omega
     |exact hs
     |exact hf.1
     |(exact(hf.2 _ ‹_›).1)
     |(exact(hf.2 _ ‹_›).2)
     |exact⟨hf,by decide⟩
     |exact⟨⟨hf,by decide⟩,by assumption⟩
     |(simp only [jh,ji];omega)
     |(exfalso;simp_all;done)
  rw [if_neg hd7] at hr
  (repeat' (first|refine ja ?_ ?_|intro _))<;>first|omega|exact jb|exact jc ‹False›|skip
  all_goals first
   |(with_reducible show Ok _ _ _ _;(try(exfalso;omega));exact seam rfl zh mixed [vI,vH,xB,xA,xw,xu,zO,zN,xq,xk,zU,zT,yJ,yI,wK,wJ,wI,wH,sF,sD,vS,vP] hX [0,1,2,4,10] ⟨[(0,.v (.one (.ptr 0 0))),(1,.v (.agg [(.p (.int .i64 ui)),(.p (.int .i64 uz)),(.p (.str uo)),(.p (.list .byte ub)),(.p (.int .i64 us))])),(2,.v (.one (.p (.list .byte body)))),(4,.v (.one (.ptr 2 0))),(10,.v (.one (.p (.int .i64 nv))))],[.obj 170 [(.ptr 1 0),(.p (.str m)),(.p (.str t)),(.p (.int .i64 mi)),(.p (.list .fld f)),(.p (.int .i64 le))],.pack [.obj 54 [(.ptr 1 0),(.ptr 2 0)],.pack [.obj 124 [(.row 1),(.p (.int .i64 n))],.row .upl 81 l],.pack [.obj 156 [(.row 1),(.p (.int .i64 s))],.row .byte 5 b]],.pack [.obj 81 [(.p (.int .i64 ui)),(.p (.int .i64 uz)),(.p (.str uo)),(.p (.list .byte ub)),(.p (.int .i64 us))]]],131,none⟩ (by kernel_rfl) (key10 nv (by omega) hr))
   |with_reducible rfl
   |with_reducible assumption
   |omega
   |exact hs
   |exact hf.1
   |(exact(hf.2 _ ‹_›).1)
   |(exact(hf.2 _ ‹_›).2)
   |exact⟨hf,by decide⟩
   |exact⟨⟨hf,by decide⟩,by assumption⟩
   |(simp only [jh,ji];omega)
   |(exfalso;simp_all;done)
 clear hs2 hnn hbb key17 key10;subst hI;rw [show([99,111,110,116,101,110,116,45,116,121,112,101]:Str)=ZM from rfl];rw [show([97,112,112,108,105,99,97,116,105,111,110,47,111,102,102,115,101,116,43,111,99,116,101,116,45,115,116,114,101,97,109]:Str)=octS from rfl];simp only [nrmA,nrmB,nrlB,reduceCtorEq,HO.pack.injEq,HO.obj.injEq]
 have hcl:ZM.length≤1000000:=by decide
 generalize oneT f ZM=oc at *;obtain⟨ov,oc⟩:=oc
 try simp only at *
 generalize wz ov=pm at *;obtain⟨⟨pw,pp⟩,pc⟩:=pm
 try simp only at *
 by_cases hd8:oc=9
 · rw [if_pos hd8] at hr
   simp only [TA.mk.injEq,Sto.mk.injEq] at hr;obtain⟨q1,q2,q3,q4,q5,q6⟩:=hr;subst q1 q2 q3 q4 q5 q6;simp only [nrmA,nrmB,nrlB,reduceCtorEq,HO.pack.injEq,HO.obj.injEq,decide_true,decide_false,je,jd,forall_const,false_implies,true_implies,jf,jg,hd8]
   (repeat' (first|refine ja ?_ ?_|intro _))<;>first|omega|exact jb|exact jc ‹False›|skip
   all_goals first
    |with_reducible rfl
    |with_reducible assumption
    |omega
    |exact hs
    |exact hf.1
    |(exact(hf.2 _ ‹_›).1)
    |(exact(hf.2 _ ‹_›).2)
    |exact⟨hf,by decide⟩
    |exact⟨⟨hf,by decide⟩,by assumption⟩
    |(simp only [jh,ji];omega)
    |(exfalso;simp_all;done)
 rw [if_neg hd8] at hr
 try simp only [Bool.not_eq_false] at hd8
 simp only [nrmA,nrmB,nrlB,reduceCtorEq,HO.pack.injEq,HO.obj.injEq,decide_true,decide_false,je,jd,forall_const,false_implies,true_implies,jf,jg,hd8]
 by_cases hd9:pc≠0∨pw≠octS
 · rw [if_pos hd9] at hr
   simp only [TA.mk.injEq,Sto.mk.injEq] at hr;obtain⟨q1,q2,q3,q4,q5,q6⟩:=hr;subst q1 q2 q3 q4 q5 q6
   (repeat' (first|refine ja ?_ ?_|intro _))<;>first|omega|exact jb|exact jc ‹False›|skip
   all_goals first
    |with_reducible rfl
    |with_reducible assumption
    |omega
    |exact hs
    |exact hf.1
    |(exact(hf.2 _ ‹_›).1)
    |(exact(hf.2 _ ‹_›).2)
    |exact⟨hf,by decide⟩
    |exact⟨⟨hf,by decide⟩,by assumption⟩
    |(simp only [jh,ji];omega)
    |(exfalso;simp_all;done)
 rw [if_neg hd9] at hr;simp only [not_or,ne_eq,Decidable.not_not] at hd9;obtain⟨g1,g2⟩:=hd9;clear hcm;subst g1 g2;simp only [nrmA,nrmB,nrlB,reduceCtorEq,HO.pack.injEq,HO.obj.injEq,jf,false_implies,true_and,and_true]
 (repeat' (first|refine ja ?_ ?_|intro _))<;>first|omega|exact jb|exact jc ‹False›|skip
 all_goals first
  |(with_reducible show Ok _ _ _ _;(try(exfalso;omega));exact seam rfl zh mixed [vI,vH,xB,xA,xw,xu,zO,zN,xq,xk,zU,zT,yJ,yI,wK,wJ,wI,wH,sF,sD,vS,vP] hX [0,1,2,4] ⟨[(0,.v (.one (.ptr 0 0))),(1,.v (.agg [(.p (.int .i64 ui)),(.p (.int .i64 uz)),(.p (.str uo)),(.p (.list .byte ub)),(.p (.int .i64 us))])),(2,.v (.one (.p (.list .byte body)))),(4,.v (.one (.ptr 2 0)))],[.obj 170 [(.ptr 1 0),(.p (.str m)),(.p (.str t)),(.p (.int .i64 mi)),(.p (.list .fld f)),(.p (.int .i64 le))],.pack [.obj 54 [(.ptr 1 0),(.ptr 2 0)],.pack [.obj 124 [(.row 1),(.p (.int .i64 n))],.row .upl 81 l],.pack [.obj 156 [(.row 1),(.p (.int .i64 s))],.row .byte 5 b]],.pack [.obj 81 [(.p (.int .i64 ui)),(.p (.int .i64 uz)),(.p (.str uo)),(.p (.list .byte ub)),(.p (.int .i64 us))]]],131,none⟩ (by kernel_rfl) (key5 () hr))
  |with_reducible rfl
  |with_reducible assumption
  |omega
  |exact hs
  |exact hf.1
  |(exact(hf.2 _ ‹_›).1)
  |(exact(hf.2 _ ‹_›).2)
  |exact⟨hf,by decide⟩
  |exact⟨⟨hf,by decide⟩,by assumption⟩
  |(simp only [jh,ji];omega)
  |(exfalso;simp_all;done)
  |skip
 exact seam rfl zh mixed [vI,vH,xB,xA,xw,xu,zO,zN,xq,xk,zU,zT,yJ,yI,wK,wJ,wI,wH,sF,sD,vS,vP] hX [0,1,2,4] ⟨[(0,.v (.one (.ptr 0 0))),(1,.v (.agg [(.p (.int .i64 ui)),(.p (.int .i64 uz)),(.p (.str uo)),(.p (.list .byte ub)),(.p (.int .i64 us))])),(2,.v (.one (.p (.list .byte body)))),(4,.v (.one (.ptr 2 0)))],[.obj 170 [(.ptr 1 0),(.p (.str m)),(.p (.str t)),(.p (.int .i64 mi)),(.p (.list .fld f)),(.p (.int .i64 le))],.pack [.obj 54 [(.ptr 1 0),(.ptr 2 0)],.pack [.obj 124 [(.row 1),(.p (.int .i64 n))],.row .upl 81 l],.pack [.obj 156 [(.row 1),(.p (.int .i64 s))],.row .byte 5 b]],.pack [.obj 81 [(.p (.int .i64 ui)),(.p (.int .i64 uz)),(.p (.str uo)),(.p (.list .byte ub)),(.p (.int .i64 us))]]],131,none⟩ (by kernel_rfl) (key5 () hr)
def Ye:Know Tryz.prog:=⟨132,Wv,zfe⟩
def Yd:Know Tryz.prog:=⟨132,fun I=>zy I (Wv I),zf zfe⟩
end Go.Proofs.YtkjepecoodjbmaaGreatDoor
namespace Go.Proofs.YtkjepecoodjbmaaGreatDoor
open Go Go.Sep Go.Ab
set_option maxRecDepth 100000
theorem zmx {l:List Upl} {n:Int} (h:zK l n) (id:Int):(getU l id).bytes.length≤2000∧(getU l id).size≤2000:=by
 unfold getU
 split
 · rename_i hi
   rw [vw hi];have:=h.each _ (List.getElem_mem hi);exact⟨this.bl,this.s2⟩
 · decide
def Wu (I:Alg) (args:List D) (hp:List HO):Option CT:=match args,hp with
 |[.v (.one (.ptr 0 0)),.v (.one (.p (.list .byte body)))],[.obj 170 [(.ptr 1 0),(.p (.str m)),(.p (.str t)),(.p (.int .i64 mi)),(.p (.list .fld f)),(.p (.int .i64 le))],.pack [.obj 54 [(.ptr 1 0),(.ptr 2 0)],.pack [.obj 124 [(.row 1),(.p (.int .i64 n))],.row .upl 81 l],.pack [.obj 156 [(.row 1),(.p (.int .i64 s))],.row .byte 5 b]]]=>(fun(m t:Str) (mi:Int) (f:List Fld) (le:Int) (l:List Upl) (n:Int) (b:Str) (s:Int) (body:Str)=>(some (.one ⟨I.hid (FOk f∧zK l n∧n≤200000∧b.length≤100000∧body.length≤100000),(.pan (.ifc 165 true [(.int .i64 (I.hid ((yC ⟨l,n,b,s⟩ m t f body).st))),(.list .fld (I.hid ((yC ⟨l,n,b,s⟩ m t f body).fs))),(.list .byte (I.hid ([])))])),[.obj 170 [(.ptr 1 0),(.p (.str m)),(.p (.str t)),(.p (.int .i64 mi)),(.p (.list .fld f)),(.p (.int .i64 le))],.pack [.obj 54 [(.ptr 1 0),(.ptr 2 0)],.pack [.obj 124 [(.row 1),(.p (.int .i64 (I.hid ((yC ⟨l,n,b,s⟩ m t f body).q.n))))],.row .upl 81 (I.hid ((yC ⟨l,n,b,s⟩ m t f body).q.l))],.pack [.obj 156 [(.row 1),(.p (.int .i64 (I.hid ((yC ⟨l,n,b,s⟩ m t f body).q.s))))],.row .byte 5 (I.hid ((yC ⟨l,n,b,s⟩ m t f body).q.b))]]]⟩):Option CT)) m t mi f le l n b s body
 |_,_=>none
set_option maxHeartbeats 8000000 in
theorem zfd:zx Tryz.prog 88 (Wu alg):=by
 intro args hp r h;unfold Wu at h;split at h<;>cases h
 rename_i body m t mi f le n l s b
 revert f l;intro(f:List Fld) (l:List Upl)
 simp only [CT.Good,zi];intro hneed;obtain⟨hf,hs,hn,hb,hbl⟩:=hneed;have hn0:=hs.n0;have hus:=zmx hs (idV t);generalize hr:yC ⟨l,n,b,s⟩ m t f body=r;obtain⟨st,fs,⟨l',n',b',s'⟩⟩:=r;unfold yC at hr
 try simp only at hr
 refine spcG zh mixed Tryz.func88 (by kernel_rfl) { cfgT with seam:=[3,10],keep:=some [0,1,4,5,7,55]} [wF,wE,zO,zN,zU,zT,yJ,yI,wK,wJ,wI,wH,vS,vP,Zf,Ze,zau,zat,Ws,Wq,Ye,Yd] (by kernel_rfl) ?_
 intro I X hI hX
 refine orcL ?_;go_invoke;refine orcS (by kernel_rfl) ?_
 simp only [zq,Nat.reduceAdd]
 have key10: ∀ (_u:Unit),(if uplB ⟨l,n,b,s⟩ t=false then(⟨404,[],⟨l,n,b,s⟩⟩:TA)
  else if m=zsl then(⟨200,zbN (getU l (idV t)),⟨l,n,b,s⟩⟩:TA)
  else if m=Zh then vG ⟨l,n,b,s⟩ (getU l (idV t)) f body
  else if m=zsX then Um ⟨l,n,b,s⟩ (getU l (idV t))
  else(⟨405,[],⟨l,n,b,s⟩⟩:TA))=⟨st,fs,⟨l',n',b',s'⟩⟩→Ok Tryz.prog X (fun o h=>o=AOut.pan (C.ifc 165 true [P.int IntKind.i64 st,P.list U.fld fs,P.list U.byte []])∧h=[HO.obj 170 [C.ptr 1 0,C.p (P.str m),C.p (P.str t),C.p (P.int IntKind.i64 mi),C.p (P.list U.fld f),C.p (P.int IntKind.i64 le)],HO.pack [HO.obj 54 [C.ptr 1 0,C.ptr 2 0],HO.pack [HO.obj 124 [C.row 1,C.p (P.int IntKind.i64 n')],HO.row U.upl 81 l'],HO.pack [HO.obj 156 [C.row 1,C.p (P.int IntKind.i64 s')],HO.row U.byte 5 b']]]) (go I tab { cfgT with seam:=[3,10],keep:=some [0,1,4,5,7,55]} [wF,wE,zO,zN,zU,zT,yJ,yI,wK,wJ,wI,wH,vS,vP,Zf,Ze,zau,zat,Ws,Wq,Ye,Yd] [⟨um Tryz.f88,finK I tab { cfgT with seam:=[3,10],keep:=some [0,1,4,5,7,55]} 2 Tryz.f88⟩] 0 [1,1,1,1,0] ⟨[(0,.v (.one (.ptr 0 0))),(1,.v (.one (.p (.list .byte body))))],[.obj 170 [(.ptr 1 0),(.p (.str m)),(.p (.str t)),(.p (.int .i64 mi)),(.p (.list .fld f)),(.p (.int .i64 le))],.pack [.obj 54 [(.ptr 1 0),(.ptr 2 0)],.pack [.obj 124 [(.row 1),(.p (.int .i64 n))],.row .upl 81 l],.pack [.obj 156 [(.row 1),(.p (.int .i64 s))],.row .byte 5 b]]],84,none⟩):=by
  intro _ hr
  refine orcL ?_;go_invoke;refine orcS (by kernel_rfl) ?_
  simp only [zq,Nat.reduceAdd];subst hI;unfold zsl Zh zsX at hr;unfold Um wsC wsS syS at hr
  try simp only at hr
  simp only [nrmA,nrmB,nrlB,reduceCtorEq,HO.pack.injEq,HO.obj.injEq];generalize getU l (idV t)=u at *;obtain⟨ui,uz,uo,ub,us⟩:=u
  try simp only at *
  by_cases hd1:uplB ⟨l,n,b,s⟩ t=false
  · rw [if_pos hd1] at hr
    simp only [TA.mk.injEq,Sto.mk.injEq] at hr;obtain⟨q1,q2,q3,q4,q5,q6⟩:=hr;subst q1 q2 q3 q4 q5 q6
    try simp only [nrmA,nrmB,nrlB,reduceCtorEq,HO.pack.injEq,HO.obj.injEq,decide_true,decide_false,je,jd,forall_const,false_implies,true_implies,jf,jg,hd1]
    (repeat' (first|refine ja ?_ ?_|intro _))<;>first|omega|exact jb|exact jc ‹False›|skip
    all_goals first
     |with_reducible rfl
     |with_reducible assumption
     |omega
     |exact hs
     |exact hf.1
     |(exact(hf.2 _ ‹_›).1)
     |(exact(hf.2 _ ‹_›).2)
     |exact⟨hf,by decide⟩
     |exact⟨⟨hf,by decide⟩,by assumption⟩
     |(simp only [jh,ji];omega)
     |(exfalso;simp_all;done)
  rw [if_neg hd1] at hr
  try simp only [Bool.not_eq_false,ne_eq,Decidable.not_not] at hd1
  try simp only [nrmA,nrmB,nrlB,reduceCtorEq,HO.pack.injEq,HO.obj.injEq,decide_true,decide_false,je,jd,forall_const,false_implies,true_implies,jf,jg,hd1]
  by_cases hd2:m=[72,69,65,68]
  · rw [if_pos hd2] at hr
    simp only [TA.mk.injEq,Sto.mk.injEq] at hr;obtain⟨q1,q2,q3,q4,q5,q6⟩:=hr;subst q1 q2 q3 q4 q5 q6
    try simp only [nrmA,nrmB,nrlB,reduceCtorEq,HO.pack.injEq,HO.obj.injEq,decide_true,decide_false,je,jd,forall_const,false_implies,true_implies,jf,jg,hd2]
    (repeat' (first|refine ja ?_ ?_|intro _))<;>first|omega|exact jb|exact jc ‹False›|skip
    all_goals first
     |with_reducible rfl
     |with_reducible assumption
     |omega
     |exact hs
     |exact hf.1
     |(exact(hf.2 _ ‹_›).1)
     |(exact(hf.2 _ ‹_›).2)
     |exact⟨hf,by decide⟩
     |exact⟨⟨hf,by decide⟩,by assumption⟩
     |(simp only [jh,ji];omega)
     |(exfalso;simp_all;done)
  rw [if_neg hd2] at hr
  try simp only [Bool.not_eq_false,ne_eq,Decidable.not_not] at hd2
  try simp only [nrmA,nrmB,nrlB,reduceCtorEq,HO.pack.injEq,HO.obj.injEq,decide_true,decide_false,je,jd,forall_const,false_implies,true_implies,jf,jg,hd2]
  by_cases hd3:m=[80,65,84,67,72]
  · rw [if_pos hd3] at hr
    simp only [nrmA,nrmB,nrlB,reduceCtorEq,HO.pack.injEq,HO.obj.injEq,decide_true,decide_false,je,jd,forall_const,false_implies,true_implies,jf,jg,hd3,hr]
    (repeat' (first|refine ja ?_ ?_|intro _))<;>first|omega|exact jb|exact jc ‹False›|skip
    all_goals first
     |with_reducible rfl
     |with_reducible assumption
     |omega
     |exact hs
     |exact hf.1
     |(exact(hf.2 _ ‹_›).1)
     |(exact(hf.2 _ ‹_›).2)
     |exact⟨hf,by decide⟩
     |exact⟨⟨hf,by decide⟩,by assumption⟩
     |(simp only [jh,ji];omega)
     |(exfalso;simp_all;done)
  rw [if_neg hd3] at hr
  try simp only [Bool.not_eq_false,ne_eq,Decidable.not_not] at hd3
  try simp only [nrmA,nrmB,nrlB,reduceCtorEq,HO.pack.injEq,HO.obj.injEq,decide_true,decide_false,je,jd,forall_const,false_implies,true_implies,jf,jg,hd3]
  by_cases hd:m=[68,69,76,69,84,69]
  · rw [if_pos hd] at hr
    by_cases h1:wrtC l n b ⟨4,ui,0,[]⟩=0
    · rw [if_neg (fun h=>h h1)] at hr
      simp only [TA.mk.injEq,Sto.mk.injEq] at hr;obtain⟨q1,q2,q3,q4,q5,q6⟩:=hr;subst q1 q2 q3 q4 q5 q6;simp only [nrmA,nrmB,nrlB,reduceCtorEq,HO.pack.injEq,HO.obj.injEq,decide_true,decide_false,je,jd,forall_const,false_implies,true_implies,jf,jg,hd,h1]
      (repeat' (first|refine ja ?_ ?_|intro _))<;>first|omega|exact jb|exact jc ‹False›|skip
      all_goals first
       |with_reducible rfl
       |with_reducible assumption
       |omega
       |exact hs
       |exact hf.1
       |(exact(hf.2 _ ‹_›).1)
       |(exact(hf.2 _ ‹_›).2)
       |exact⟨hf,by decide⟩
       |exact⟨⟨hf,by decide⟩,by assumption⟩
       |(simp only [jh,ji];omega)
       |(exfalso;simp_all;done)
    · rw [if_pos h1] at hr
      simp only [TA.mk.injEq,Sto.mk.injEq] at hr;obtain⟨q1,q2,q3,q4,q5,q6⟩:=hr;subst q1 q2 q3 q4 q5 q6
      have e1:wrtL l n b ⟨4,ui,0,[]⟩=l:=by simp only [wrtL,if_neg h1]
      have e2:wrtN l n b ⟨4,ui,0,[]⟩=n:=by simp only [wrtN,if_neg h1]
      have e3:wrtB l n b ⟨4,ui,0,[]⟩=b:=by simp only [wrtB,if_neg h1]
      try rw [e1,e2,e3]
      simp only [nrmA,nrmB,nrlB,reduceCtorEq,HO.pack.injEq,HO.obj.injEq,decide_true,decide_false,je,jd,forall_const,false_implies,true_implies,jf,jg,hd,h1]
      (repeat' (first|refine ja ?_ ?_|intro _))<;>first|omega|exact jb|exact jc ‹False›|skip
      all_goals first
       |with_reducible rfl
       |with_reducible assumption
       |omega
       |exact hs
       |exact hf.1
       |(exact(hf.2 _ ‹_›).1)
       |(exact(hf.2 _ ‹_›).2)
       |exact⟨hf,by decide⟩
       |exact⟨⟨hf,by decide⟩,by assumption⟩
       |(simp only [jh,ji];omega)
       |(exfalso;simp_all;done)
  · rw [if_neg hd] at hr
    simp only [TA.mk.injEq,Sto.mk.injEq] at hr;obtain⟨q1,q2,q3,q4,q5,q6⟩:=hr;subst q1 q2 q3 q4 q5 q6;simp only [nrmA,nrmB,nrlB,reduceCtorEq,HO.pack.injEq,HO.obj.injEq,decide_true,decide_false,je,jd,forall_const,false_implies,true_implies,jf,jg,hd]
    (repeat' (first|refine ja ?_ ?_|intro _))<;>first|omega|exact jb|exact jc ‹False›|skip
    all_goals first
     |with_reducible rfl
     |with_reducible assumption
     |omega
     |exact hs
     |exact hf.1
     |(exact(hf.2 _ ‹_›).1)
     |(exact(hf.2 _ ‹_›).2)
     |exact⟨hf,by decide⟩
     |exact⟨⟨hf,by decide⟩,by assumption⟩
     |(simp only [jh,ji];omega)
     |(exfalso;simp_all;done)
 have key3: ∀ (q:Bool),q=decide (t=rX)→(if(oneT f zhH).2=9 then(⟨400,[],⟨l,n,b,s⟩⟩:TA)
  else if(oneT f zhH).1≠verS then(⟨412,[⟨zna,verS⟩],⟨l,n,b,s⟩⟩:TA)
  else if t=rX then(if m≠zbS then(⟨405,[],⟨l,n,b,s⟩⟩:TA) else xX ⟨l,n,b,s⟩ f)
  else(if uplB ⟨l,n,b,s⟩ t=false then(⟨404,[],⟨l,n,b,s⟩⟩:TA)
  else if m=zsl then(⟨200,zbN (getU l (idV t)),⟨l,n,b,s⟩⟩:TA)
  else if m=Zh then vG ⟨l,n,b,s⟩ (getU l (idV t)) f body
  else if m=zsX then Um ⟨l,n,b,s⟩ (getU l (idV t))
  else(⟨405,[],⟨l,n,b,s⟩⟩:TA)))=⟨st,fs,⟨l',n',b',s'⟩⟩→Ok Tryz.prog X (fun o h=>o=AOut.pan (C.ifc 165 true [P.int IntKind.i64 st,P.list U.fld fs,P.list U.byte []])∧h=[HO.obj 170 [C.ptr 1 0,C.p (P.str m),C.p (P.str t),C.p (P.int IntKind.i64 mi),C.p (P.list U.fld f),C.p (P.int IntKind.i64 le)],HO.pack [HO.obj 54 [C.ptr 1 0,C.ptr 2 0],HO.pack [HO.obj 124 [C.row 1,C.p (P.int IntKind.i64 n')],HO.row U.upl 81 l'],HO.pack [HO.obj 156 [C.row 1,C.p (P.int IntKind.i64 s')],HO.row U.byte 5 b']]]) (go I tab { cfgT with seam:=[3,10],keep:=some [0,1,4,5,7,55]} [wF,wE,zO,zN,zU,zT,yJ,yI,wK,wJ,wI,wH,vS,vP,Zf,Ze,zau,zat,Ws,Wq,Ye,Yd] [⟨um Tryz.f88,finK I tab { cfgT with seam:=[3,10],keep:=some [0,1,4,5,7,55]} 2 Tryz.f88⟩] 0 [1,1,0,0] ⟨[(0,.v (.one (.ptr 0 0))),(1,.v (.one (.p (.list .byte body)))),(4,.v (.one (.p (.bool q))))],[.obj 170 [(.ptr 1 0),(.p (.str m)),(.p (.str t)),(.p (.int .i64 mi)),(.p (.list .fld f)),(.p (.int .i64 le))],.pack [.obj 54 [(.ptr 1 0),(.ptr 2 0)],.pack [.obj 124 [(.row 1),(.p (.int .i64 n))],.row .upl 81 l],.pack [.obj 156 [(.row 1),(.p (.int .i64 s))],.row .byte 5 b]]],84,none⟩):=by
  intro q hq hr
  refine orcL ?_;go_invoke;refine orcS (by kernel_rfl) ?_
  simp only [zq,Nat.reduceAdd];subst hI;rw [show([116,117,115,45,114,101,115,117,109,97,98,108,101]:Str)=zhH from rfl];unfold verS zbS at hr;unfold zna at hr
  have htl:zhH.length≤1000000:=by decide
  simp only [nrmA,nrmB,nrlB,reduceCtorEq,HO.pack.injEq,HO.obj.injEq];generalize oneT f zhH=oc at *;obtain⟨ov,oc⟩:=oc
  try simp only at *
  by_cases hd4:oc=9
  · rw [if_pos hd4] at hr
    simp only [TA.mk.injEq,Sto.mk.injEq] at hr;obtain⟨q1,q2,q3,q4,q5,q6⟩:=hr;subst q1 q2 q3 q4 q5 q6
    try simp only [nrmA,nrmB,nrlB,reduceCtorEq,HO.pack.injEq,HO.obj.injEq,decide_true,decide_false,je,jd,forall_const,false_implies,true_implies,jf,jg,hd4]
    (repeat' (first|refine ja ?_ ?_|intro _))<;>first|omega|exact jb|exact jc ‹False›|skip
    all_goals first
     |with_reducible rfl
     |with_reducible assumption
     |omega
     |exact hs
     |exact hf.1
     |(exact(hf.2 _ ‹_›).1)
     |(exact(hf.2 _ ‹_›).2)
     |exact⟨hf,by decide⟩
     |exact⟨⟨hf,by decide⟩,by assumption⟩
     |(simp only [jh,ji];omega)
     |(exfalso;simp_all;done)
  rw [if_neg hd4] at hr
  try simp only [Bool.not_eq_false,ne_eq,Decidable.not_not] at hd4
  try simp only [nrmA,nrmB,nrlB,reduceCtorEq,HO.pack.injEq,HO.obj.injEq,decide_true,decide_false,je,jd,forall_const,false_implies,true_implies,jf,jg,hd4]
  by_cases hd5:ov≠[49,46,48,46,48]
  · rw [if_pos hd5] at hr
    simp only [TA.mk.injEq,Sto.mk.injEq] at hr;obtain⟨q1,q2,q3,q4,q5,q6⟩:=hr;subst q1 q2 q3 q4 q5 q6
    try simp only [nrmA,nrmB,nrlB,reduceCtorEq,HO.pack.injEq,HO.obj.injEq,decide_true,decide_false,je,jd,forall_const,false_implies,true_implies,jf,jg,hd5]
    (repeat' (first|refine ja ?_ ?_|intro _))<;>first|omega|exact jb|exact jc ‹False›|skip
    all_goals first
     |with_reducible rfl
     |with_reducible assumption
     |omega
     |exact hs
     |exact hf.1
     |(exact(hf.2 _ ‹_›).1)
     |(exact(hf.2 _ ‹_›).2)
     |exact⟨hf,by decide⟩
     |exact⟨⟨hf,by decide⟩,by assumption⟩
     |(simp only [jh,ji];omega)
     |(exfalso;simp_all;done)
  rw [if_neg hd5] at hr
  try simp only [Bool.not_eq_false,ne_eq,Decidable.not_not] at hd5
  try simp only [nrmA,nrmB,nrlB,reduceCtorEq,HO.pack.injEq,HO.obj.injEq,decide_true,decide_false,je,jd,forall_const,false_implies,true_implies,jf,jg,hd5]
  by_cases hff:t=rX
  · rw [if_pos hff] at hr
    rw [decide_eq_true hff] at hq;subst hq;simp only [nrmA,nrmB,nrlB,reduceCtorEq,HO.pack.injEq,HO.obj.injEq,decide_true,decide_false,je,jd,forall_const,false_implies,true_implies,jf,jg]
    by_cases hd6:m≠[80,79,83,84]
    · rw [if_pos hd6] at hr
      simp only [TA.mk.injEq,Sto.mk.injEq] at hr;obtain⟨q1,q2,q3,q4,q5,q6⟩:=hr;subst q1 q2 q3 q4 q5 q6
      try simp only [nrmA,nrmB,nrlB,reduceCtorEq,HO.pack.injEq,HO.obj.injEq,decide_true,decide_false,je,jd,forall_const,false_implies,true_implies,jf,jg,hd6]
      (repeat' (first|refine ja ?_ ?_|intro _))<;>first|omega|exact jb|exact jc ‹False›|skip
      all_goals first
       |with_reducible rfl
       |with_reducible assumption
       |omega
       |exact hs
       |exact hf.1
       |(exact(hf.2 _ ‹_›).1)
       |(exact(hf.2 _ ‹_›).2)
       |exact⟨hf,by decide⟩
       |exact⟨⟨hf,by decide⟩,by assumption⟩
       |(simp only [jh,ji];omega)
       |(exfalso;simp_all;done)
    rw [if_neg hd6] at hr
    try simp only [Bool.not_eq_false,ne_eq,Decidable.not_not] at hd6
    try simp only [nrmA,nrmB,nrlB,reduceCtorEq,HO.pack.injEq,HO.obj.injEq,decide_true,decide_false,je,jd,forall_const,false_implies,true_implies,jf,jg,hd6]
    simp only [nrmA,nrmB,nrlB,reduceCtorEq,HO.pack.injEq,HO.obj.injEq,decide_true,decide_false,je,jd,forall_const,false_implies,true_implies,jf,jg,hr]
    (repeat' (first|refine ja ?_ ?_|intro _))<;>first|omega|exact jb|exact jc ‹False›|skip
    all_goals first
     |with_reducible rfl
     |with_reducible assumption
     |omega
     |exact hs
     |exact hf.1
     |(exact(hf.2 _ ‹_›).1)
     |(exact(hf.2 _ ‹_›).2)
     |exact⟨hf,by decide⟩
     |exact⟨⟨hf,by decide⟩,by assumption⟩
     |(simp only [jh,ji];omega)
     |(exfalso;simp_all;done)
  · rw [if_neg hff] at hr
    rw [decide_eq_false hff] at hq;subst hq;simp only [nrmA,nrmB,nrlB,reduceCtorEq,HO.pack.injEq,HO.obj.injEq,decide_true,decide_false,je,jd,forall_const,false_implies,true_implies,jf,jg]
    (repeat' (first|refine ja ?_ ?_|intro _))<;>first|omega|exact jb|exact jc ‹False›|skip
    all_goals first
     |((with_reducible show Ok _ _ _ _);(try(exfalso;omega));exact seam rfl zh mixed [wF,wE,zO,zN,zU,zT,yJ,yI,wK,wJ,wI,wH,vS,vP,Zf,Ze,zau,zat,Ws,Wq,Ye,Yd] hX [0,1] ⟨[(0,.v (.one (.ptr 0 0))),(1,.v (.one (.p (.list .byte body))))],[.obj 170 [(.ptr 1 0),(.p (.str m)),(.p (.str t)),(.p (.int .i64 mi)),(.p (.list .fld f)),(.p (.int .i64 le))],.pack [.obj 54 [(.ptr 1 0),(.ptr 2 0)],.pack [.obj 124 [(.row 1),(.p (.int .i64 n))],.row .upl 81 l],.pack [.obj 156 [(.row 1),(.p (.int .i64 s))],.row .byte 5 b]]],84,none⟩ (by kernel_rfl) (key10 () hr))
     |with_reducible rfl
     |with_reducible assumption
     |omega
     |exact hs
     |exact hf.1
     |(exact(hf.2 _ ‹_›).1)
     |(exact(hf.2 _ ‹_›).2)
     |exact⟨hf,by decide⟩
     |exact⟨⟨hf,by decide⟩,by assumption⟩
     |(simp only [jh,ji];omega)
     |(exfalso;simp_all;done)
 clear key10;subst hI;unfold zwe zna verS zvG zvI zvH at hr;rw [show([47,102,105,108,101,115]:Str)=rX from rfl];simp only [nrmA,nrmB,nrlB,reduceCtorEq,HO.pack.injEq,HO.obj.injEq]
 by_cases hd7:t=rX∧m=[79,80,84,73,79,78,83]
 · rw [if_pos hd7] at hr
   simp only [TA.mk.injEq,Sto.mk.injEq] at hr;obtain⟨q1,q2,q3,q4,q5,q6⟩:=hr;subst q1 q2 q3 q4 q5 q6
   try simp only [nrmA,nrmB,nrlB,reduceCtorEq,HO.pack.injEq,HO.obj.injEq,decide_true,decide_false,je,jd,forall_const,false_implies,true_implies,jf,jg,hd7]
   (repeat' (first|refine ja ?_ ?_|intro _))<;>first|omega|exact jb|exact jc ‹False›|skip
   all_goals first
    |with_reducible rfl
    |with_reducible assumption
    |omega
    |exact hs
    |exact hf.1
    |(exact(hf.2 _ ‹_›).1)
    |(exact(hf.2 _ ‹_›).2)
    |exact⟨hf,by decide⟩
    |exact⟨⟨hf,by decide⟩,by assumption⟩
    |(simp only [jh,ji];omega)
    |(exfalso;simp_all;done)
 rw [if_neg hd7] at hr
 try simp only [Bool.not_eq_false,ne_eq,Decidable.not_not] at hd7
 try simp only [nrmA,nrmB,nrlB,reduceCtorEq,HO.pack.injEq,HO.obj.injEq,decide_true,decide_false,je,jd,forall_const,false_implies,true_implies,jf,jg,hd7]
 have hbeq:(t == rX)=decide (t=rX):=by rw [Bool.eq_iff_iff];simp
 (repeat' (first|refine ja ?_ ?_|intro _))<;>first|omega|exact jb|exact jc ‹False›|skip
 all_goals first
  |((with_reducible show Ok _ _ _ _);(try(exfalso;omega));exact seam rfl zh mixed [wF,wE,zO,zN,zU,zT,yJ,yI,wK,wJ,wI,wH,vS,vP,Zf,Ze,zau,zat,Ws,Wq,Ye,Yd] hX [0,1,4] ⟨[(0,.v (.one (.ptr 0 0))),(1,.v (.one (.p (.list .byte body)))),(4,.v (.one (.p (.bool ((t == rX))))))],[.obj 170 [(.ptr 1 0),(.p (.str m)),(.p (.str t)),(.p (.int .i64 mi)),(.p (.list .fld f)),(.p (.int .i64 le))],.pack [.obj 54 [(.ptr 1 0),(.ptr 2 0)],.pack [.obj 124 [(.row 1),(.p (.int .i64 n))],.row .upl 81 l],.pack [.obj 156 [(.row 1),(.p (.int .i64 s))],.row .byte 5 b]]],84,none⟩ (by kernel_rfl) (key3 _ hbeq hr))
  |with_reducible rfl
  |with_reducible assumption
  |omega
  |exact hs
  |exact hf.1
  |(exact(hf.2 _ ‹_›).1)
  |(exact(hf.2 _ ‹_›).2)
  |exact⟨hf,by decide⟩
  |exact⟨⟨hf,by decide⟩,by assumption⟩
  |(simp only [jh,ji];omega)
  |(exfalso;simp_all;done)
def znj:Know Tryz.prog:=⟨88,Wu,zfd⟩
def zni:Know Tryz.prog:=⟨88,fun I=>zy I (Wu I),zf zfd⟩
end Go.Proofs.YtkjepecoodjbmaaGreatDoor
namespace Go.Proofs.YtkjepecoodjbmaaGreatDoor
open Go Go.Sep Go.Ab
set_option maxRecDepth 100000
theorem te {c:Prop} [Decidable c] {a b:TA} (ha:a.fs.length≤4) (hb:b.fs.length≤4):(if c then a else b).fs.length≤4:=by split<;>assumption
theorem zce (q:Sto) (m t:Str) (f:List Fld) (body:Str):(yC q m t f body).fs.length≤4:=by
 have h1:(xX q f).fs.length≤4:=by
  unfold xX
  repeat' split
  all_goals simp
 have h2: ∀ u,(vG q u f body).fs.length≤4:=fun u=>by
  unfold vG
  repeat' refine te ?_ ?_
  all_goals simp
 have h3: ∀ u,(Um q u).fs.length≤4:=fun u=>by unfold Um;split<;>simp
 have h4: ∀ u,(zbN u).length≤4:=fun u=>by unfold zbN;split<;>simp
 unfold yC
 repeat' split
 all_goals first|exact h1|exact h2 _|exact h3 _|exact h4 _|simp
theorem zvP (m t:Str) (mi:Int) (f:List Fld) (le:Int) (l:List Upl) (n:Int) (b:Str) (s st:Int) (fs:List Fld) (hfs:fs.length≤1000):SpcD Tryz.prog 86 [.ptr 2 0] (.pan (.ifc 165 true [.int .i64 st,.list .fld fs,.list .byte []])) [.pack [.obj 54 [.ptr 1 0,.ptr 2 0],.pack [.obj 124 [.row 1,.p (.int .i64 n)],.row .upl 81 l],.pack [.obj 156 [.row 1,.p (.int .i64 s)],.row .byte 5 b]],.obj 30 [.p (.str m),.p (.str t),.p (.int .i64 mi),.p (.list .fld f),.p (.int .i64 le)],.obj 128 [.p (.int .i64 0),.nilS,.nilS],.obj 170 [.ptr 0 0,.p (.str m),.p (.str t),.p (.int .i64 mi),.p (.list .fld f),.p (.int .i64 le)]] .ret [.pack [.obj 54 [.ptr 1 0,.ptr 2 0],.pack [.obj 124 [.row 1,.p (.int .i64 n)],.row .upl 81 l],.pack [.obj 156 [.row 1,.p (.int .i64 s)],.row .byte 5 b]],.pack [.obj 30 [.p (.str m),.p (.str t),.p (.int .i64 mi),.p (.list .fld f),.p (.int .i64 le)]],.pack [.obj 128 [.p (.int .i64 st),.row 1,.p (.list .byte [])],.row .fld 108 (resT::fs)],.obj 170 [.ptr 0 0,.p (.str m),.p (.str t),.p (.int .i64 mi),.p (.list .fld f),.p (.int .i64 le)]]:=by
 refine UQ zh mixed Tryz.func86 (by kernel_rfl) cfgT [yJ,yI] (rest:=_) rfl (by kernel_rfl) ?_
 intro I X hI hX
 refine orcL ?_;go_invoke;refine orcS (by kernel_rfl) ?_
 simp only [zq,Nat.reduceAdd];subst hI;simp only [nrmA,nrmB,nrlB,reduceCtorEq,HO.pack.injEq,HO.obj.injEq,jh,ji,List.cons_append,List.nil_append];unfold resT zvF verS
 (repeat' (first|refine ja ?_ ?_|intro _))<;>first|omega|exact jb|exact jc ‹False›|skip
 all_goals first|omega|trivial|rfl|trace_state
def zw9:Door Tryz.prog where
 g:=86
 c :=fun _ m caps hp=>match m,caps,hp with
   |.pan (.ifc 165 true [.int .i64 st,.list .fld fs,.list .byte bb]),[.ptr 2 0],[.pack [.obj 54 [.ptr 1 0,.ptr 2 0],.pack [.obj 124 [.row 1,.p (.int .i64 n)],.row .upl 81 l],.pack [.obj 156 [.row 1,.p (.int .i64 s)],.row .byte 5 b]],.obj 30 [.p (.str m),.p (.str t),.p (.int .i64 mi),.p (.list .fld f),.p (.int .i64 le)],.obj 128 [.p (.int .i64 z0),.nilS,.nilS],.obj 170 [.ptr 0 0,.p (.str m1),.p (.str t1),.p (.int .i64 mi1),.p (.list .fld f1),.p (.int .i64 le1)]]=>some (fs.length≤1000∧bb=[]∧z0=0∧m1=m∧t1=t∧mi1=mi∧f1=f∧le1=le,.ret,[.pack [.obj 54 [.ptr 1 0,.ptr 2 0],.pack [.obj 124 [.row 1,.p (.int .i64 n)],.row .upl 81 l],.pack [.obj 156 [.row 1,.p (.int .i64 s)],.row .byte 5 b]],.pack [.obj 30 [.p (.str m),.p (.str t),.p (.int .i64 mi),.p (.list .fld f),.p (.int .i64 le)]],.pack [.obj 128 [.p (.int .i64 st),.row 1,.p (.list .byte [])],.row .fld 108 (resT::fs)],.obj 170 [.ptr 0 0,.p (.str m),.p (.str t),.p (.int .i64 mi),.p (.list .fld f),.p (.int .i64 le)]])
   |_,_,_=>none
 ok:=by
  intro m caps hp p m' hp' h hp1
  split at h
  · cases h
    obtain⟨h1,rfl,rfl,rfl,rfl,rfl,rfl,rfl⟩:=hp1;exact zvP _ _ _ _ _ _ _ _ _ _ _ h1
  · cases h
def zjo (I:Alg) (args:List D) (hp:List HO):Option CT:=match args,hp with
 |[.v (.one (.ptr 0 0)),.v (.agg [(.p (.str m)),(.p (.str t)),(.p (.int .i64 mi)),(.p (.list .fld f)),(.p (.int .i64 le))]),.v (.one (.p (.list .byte body)))],[.pack [.obj 54 [(.ptr 1 0),(.ptr 2 0)],.pack [.obj 124 [(.row 1),(.p (.int .i64 n))],.row .upl 81 l],.pack [.obj 156 [(.row 1),(.p (.int .i64 s))],.row .byte 5 b]]]=>(fun(m t:Str) (mi:Int) (f:List Fld) (le:Int) (l:List Upl) (n:Int) (b:Str) (s:Int) (body:Str)=>(some (.one ⟨I.hid (FOk f∧zK l n∧n≤200000∧b.length≤100000∧body.length≤100000),(.ret (.v (.agg [(.p (.int .i64 (I.hid ((yC ⟨l,n,b,s⟩ m t f body).st)))),(.p (.list .fld (I.hid ((resT::(yC ⟨l,n,b,s⟩ m t f body).fs))))),(.p (.list .byte (I.hid ([]))))]))),[.pack [.obj 54 [(.ptr 1 0),(.ptr 2 0)],.pack [.obj 124 [(.row 1),(.p (.int .i64 (I.hid ((yC ⟨l,n,b,s⟩ m t f body).q.n))))],.row .upl 81 (I.hid ((yC ⟨l,n,b,s⟩ m t f body).q.l))],.pack [.obj 156 [(.row 1),(.p (.int .i64 (I.hid ((yC ⟨l,n,b,s⟩ m t f body).q.s))))],.row .byte 5 (I.hid ((yC ⟨l,n,b,s⟩ m t f body).q.b))]]]⟩):Option CT)) m t mi f le l n b s body
 |_,_=>none
theorem ztb:zx Tryz.prog 49 (zjo alg):=by
 intro args hp r h;unfold zjo at h;split at h<;>cases h
 rename_i m t mi f le body n l s b
 revert f l;intro(f:List Fld) (l:List Upl)
 simp only [CT.Good,zi];intro hneed;have hfew:=zce ⟨l,n,b,s⟩ m t f body;generalize hr:yC ⟨l,n,b,s⟩ m t f body=r at hfew;obtain⟨st,fs,⟨l',n',b',s'⟩⟩:=r
 refine zvQ zh mixed Tryz.func49 (by kernel_rfl) { cfgT with keep:=some [0,1,2,4,6,7]} [znj,zni] zw9 (by kernel_rfl) ?_
 intro I X hI hX
 refine orcL ?_;go_invoke;refine orcS (by kernel_rfl) ?_
 simp only [zq,Nat.reduceAdd];subst hI;simp only at hfew;simp only [nrmA,nrmB,nrlB,reduceCtorEq,V0.agg.injEq,HO.pack.injEq,HO.obj.injEq];simp only [hr]
 (repeat' (first|refine ja ?_ ?_|intro _))<;>first|omega|exact jb|exact jc ‹False›|skip
 all_goals first|omega|rfl|assumption|exact hneed.2.1|exact hneed.1.1|(exact(hneed.1.2 _ ‹_›).1)|(exact(hneed.1.2 _ ‹_›).2)|trace_state
def zb5:Know Tryz.prog:=⟨49,zjo,ztb⟩
def zb4:Know Tryz.prog:=⟨49,fun I=>zy I (zjo I),zf ztb⟩
def zec (t:Str):Bool:=decide (t=rX)||Lib.hasPrefix t xh
def Rx (I:Alg) (args:List D) (hp:List HO):Option CT:=match args,hp with
 |[.v (.one (.p (.str t)))],[]=>(fun(t:Str)=>(some (.one ⟨I.hid (t.length≤1000000),(.ret (.v (.one (.p (.bool (I.hid ((zec t)))))))),[]⟩):Option CT)) t
 |_,_=>none
theorem zjm:zx Tryz.prog 124 (Rx alg):=by
 intro args hp r h;unfold Rx at h;split at h<;>cases h
 rename_i t;simp only [CT.Good,zi];intro hneed;generalize hr:zec t=r;unfold zec at hr
 refine spcG zh mixed Tryz.func124 (by kernel_rfl) { cfgT with keep:=some [0,2]} [yL,yK] (by kernel_rfl) ?_
 intro I X hI hX
 refine orcL ?_;go_invoke;refine orcS (by kernel_rfl) ?_
 simp only [zq,Nat.reduceAdd];subst hI;rw [show([47,102,105,108,101,115]:Str)=rX from rfl]
 try rw [show([47,102,105,108,101,115,47]:Str)=xh from rfl]
 simp only [nrmA,nrmB,nrlB,reduceCtorEq,V0.agg.injEq]
 by_cases h1:t=rX
 · rw [decide_eq_true h1,Bool.true_or] at hr
   subst hr;simp only [nrmA,nrmB,nrlB,reduceCtorEq,h1]
   (repeat' (first|refine ja ?_ ?_|intro _))<;>first|omega|exact jb|exact jc ‹False›|skip
   all_goals first|omega|rfl|assumption|(simp_all;done)|trace_state
 · rw [decide_eq_false h1,Bool.false_or] at hr
   simp only [nrmA,nrmB,nrlB,reduceCtorEq,h1]
   (repeat' (first|refine ja ?_ ?_|intro _))<;>first|omega|exact jb|exact jc ‹False›|skip
   all_goals first|omega|rfl|assumption|(simp_all;done)|trace_state
def zq7:Know Tryz.prog:=⟨124,Rx,zjm⟩
def zq6:Know Tryz.prog:=⟨124,fun I=>zy I (Rx I),zf zjm⟩
end Go.Proofs.YtkjepecoodjbmaaGreatDoor
namespace Go.Proofs.YtkjepecoodjbmaaGreatDoor
open Go Go.Sep Go.Ab
def zu8:Str:=[47,102,111,114,109]
def zmE:Str:=[102,105,108,101,110,97,109,101,32]
def zwj:Str:=[109,117,108,116,105,112,97,114,116,47,102,111,114,109,45,100,97,116,97]
def bndT:Str:=[98,111,117,110,100,97,114,121]
structure GA where
 r:Rpl
 q:Sto
def sV (st:Int):Rpl:=⟨st,[],[]⟩
def qE (f:List Fld) (body:Str):List Prt × Int:=
 if(oneT f ZM).2≠0 then([],415)
 else if(wz (oneT f ZM).1).2≠0∨(wz (oneT f ZM).1).1.word≠zwj∨(getP (wz (oneT f ZM).1).1.params bndT).2=false then([],415)
 else if(Yk (getP (wz (oneT f ZM).1).1.params bndT).1 body).2≠0 then([],400)
 else((Yk (getP (wz (oneT f ZM).1).1.params bndT).1 body).1,0)
def apCd (q:Sto) (id off:Int) (x:Str):Int:=if apG q.l id off then 17 else wsC q (apE id x)
def apQ (q:Sto) (id off:Int) (x:Str):Sto:=if apG q.l id off then q else wsS q (apE id x)
def zbX (id:Int):Ent:=⟨4,id,0,[]⟩
def tJ (q:Sto) (p:Prt):Ent:=creE q (p.bytes.length:Int) (zmE++p.file)
def zej (q:Sto) (p:Prt):Int:=if wsC q (tJ q p)≠0 then wsC q (tJ q p) else apCd (wsS q (tJ q p)) (q.n+1) 0 p.bytes
def sO (q:Sto) (p:Prt):Sto:=
 if wsC q (tJ q p)≠0 then wsS q (tJ q p)
 else if apCd (wsS q (tJ q p)) (q.n+1) 0 p.bytes≠0 then wsS (apQ (wsS q (tJ q p)) (q.n+1) 0 p.bytes) (zbX (q.n+1))
 else apQ (wsS q (tJ q p)) (q.n+1) 0 p.bytes
def XL (q:Sto):List Int→Sto
 |[]=>q
 |k::r=>XL (wsS q (zbX k)) r
def zlS (t:Str) (id:Int) (p:Prt):Str:=t++(decS id++[32]++p.file++[10])
def ul (q:Sto) (ids:List Int) (t:Str):List Prt→GA
 |[]=>⟨⟨201,[],t⟩,syS q⟩
 | p::r=>
   if p.file=[] then ul q ids t r
   else if zej q p≠0 then⟨sV (if zej q p=4 then 413 else 507),syS (XL (sO q p) ids)⟩
   else ul (sO q p) (ids++[q.n+1]) (zlS t (q.n+1) p) r
def XV:List Prt→Int
 |[]=>0
 |p::r=>((p.bytes.length:Int)+200)+XV r
def X8 (q:Sto) (f:List Fld) (body:Str):GA:=
 if(qE f body).2≠0 then⟨sV (qE f body).2,q⟩
 else if UY q.b (XV (qE f body).1)=false then⟨sV 507,q⟩
 else ul q [] [] (qE f body).1
def rplT (x:TA):Rpl:=⟨x.st,resT::x.fs,[]⟩
def ansG (q:Sto) (m t:Str) (f:List Fld) (body:Str):GA:=
 if zec t then⟨rplT (yC q m t f body),(yC q m t f body).q⟩
 else if t≠zu8 then⟨sV 404,q⟩
 else if m≠zbS then⟨sV 405,q⟩
 else X8 q f body
def qP (r:Rpl):Str:=writeT r.status r.fields r.body
structure GE where
 q:Sto
 h:Hd
 b:Str
 i:Bool
 w:Bool
 o:Str
def zpX (c:Int):Rpl:=sV (if c=4 then 413 else 400)
def evG (x:GE) (e:Evt):GE:=
 if e.kind=1 then { x with h:=e.head,b:=[],i:=true,w:=true}
 else if e.kind=2 then { x with b:=x.b++e.bytes}
 else if e.kind=3 then⟨(ansG x.q x.h.method x.h.target x.h.fields x.b).q,x.h,x.b,false,false,x.o++qP (ansG x.q x.h.method x.h.target x.h.fields x.b).r⟩
 else if e.kind=4 then { x with i:=false,o:=x.o++qP (zpX e.code)}
 else x
def evsG (x:GE) (l:List Evt):GE:=l.foldl evG x
def fedE (q:Sto) (c:Cn) (b:Str):GE:=evsG ⟨q,c.h,c.body,c.live,c.own,[]⟩ (zZ (zF c.q b).out)
def fedC (q:Sto) (c:Cn) (b:Str):Cn:=⟨zF c.q b,(fedE q c b).h,(fedE q c b).b,(fedE q c b).i,(fedE q c b).w⟩
def cn0:Cn:=⟨rq0,hd0,[],false,true⟩
structure GS where
 q:Sto
 c0:Cn
 c1:Cn
 c2:Cn
 c3:Cn
def GS.at (g:GS) (k:Int):Cn:=if k=0 then g.c0 else if k=1 then g.c1 else if k=2 then g.c2 else g.c3
def GS.put (g:GS) (k:Int) (c:Cn) (q:Sto):GS:=⟨q,if k=0 then c else g.c0,if k=1 then c else g.c1,if k=2 then c else g.c2,if k=3 then c else g.c3⟩
def inG (k:Int):Bool:=decide (0≤k)&&decide (k<4)
def zbV (c:Cn):Bool:=c.live&&(decide (c.h.method=Zh)&&(decide (c.body≠[])&&Lib.hasPrefix c.h.target xh))
def vW (q:Sto) (c:Cn):Sto:=if zbV c then(yC q c.h.method c.h.target c.h.fields c.body).q else q
def gs0:GS:=⟨⟨[],0,[],0⟩,cn0,cn0,cn0,cn0⟩
end Go.Proofs.YtkjepecoodjbmaaGreatDoor
namespace Go.Proofs.YtkjepecoodjbmaaGreatDoor
open Go Go.Sep Go.Ab
set_option maxRecDepth 100000
def zdv (I:Alg) (args:List D) (hp:List HO):Option CT:=match args,hp with
 |[.v (.one (.p (.int .i64 n)))],[]=>(fun(n:Int)=>(some (.one ⟨I.hid (True),(.ret (.v (.one (.p (.str (I.hid (UN n))))))),[]⟩):Option CT)) n
 |_,_=>none
theorem zm4:zx Tryz.prog 174 (zdv alg):=by
 intro args hp r h;unfold zdv at h;split at h<;>cases h
 rename_i n;simp only [CT.Good,zi];intro _;generalize hr:UN n=r
 refine spcG zh mixed Tryz.func174 (by kernel_rfl) { keep:=some [0,2,3]} [] (by kernel_rfl) ?_
 intro I X hI hX
 refine orcL ?_;go_invoke;refine orcS (by kernel_rfl) ?_
 simp only [zq,Nat.reduceAdd];subst hI;simp only [nrmA,nrmB];unfold UN at hr
 (repeat' (first|refine ja ?_ ?_|intro _))<;>first|omega|exact jb|exact jc ‹False›|skip
 all_goals((repeat(first|rewrite [if_pos (by first|omega|assumption|(simp only [*,or_self,or_true,true_or,or_false,false_or,jf,jg,jd,je,and_self,and_true,true_and];done)|(simp only [*];omega)|(simp [*];done)|(simp [*];omega))] at hr|rewrite [if_neg (by first|omega|assumption|(simp only [*,or_self,or_true,true_or,or_false,false_or,jf,jg,jd,je,and_self,and_true,true_and];done)|(simp only [*];omega)|(simp [*];done)|(simp [*];omega))] at hr));exact hr)
def zm3:Know Tryz.prog:=⟨174,zdv,zm4⟩
def zm2:Know Tryz.prog:=⟨174,fun I=>zy I (zdv I),zf zm4⟩
theorem zhu {fs:List Fld} {i:Nat} (h:i<fs.length):badF (fs.drop i)=if(textF (fs.getD i ⟨[],[]⟩)).2=0 then badF (fs.drop (i+1)) else(textF (fs.getD i ⟨[],[]⟩)).2:=by
 rw [jE h,badF];simp [h]
theorem zde {fs:List Fld} {i:Nat} (h:i<fs.length):tN (fs.take (i+1))=tN (fs.take i)++(textF (fs.getD i ⟨[],[]⟩)).1++[13,10]:=by
 rw [jB h,zpR];simp [tN,h]
theorem zpp {st:Int} (h:UN st≠[]):(zir st).length≤100:=by
 have:=vz st;have:=(zak h).2.2;unfold zir
 simp;omega
def Vj (I:Alg) (args:List D) (hp:List HO):Option CT:=match args,hp with
 |[.v (.agg [(.p (.int .i64 st)),(.p (.list .fld fs)),(.p (.list .byte b))])],[]=>(fun(st:Int) (fs:List Fld) (b:Str)=>(some (.one ⟨I.hid ((fs.length≤100∧∀ f ∈ fs,f.name.length≤1000000∧f.value.length≤1000000)∧b.length≤9000),(.ret (.tup [(.one (.p (.list .byte (I.hid ((writeT st fs b)))))),(.one (.p (.int .i64 (I.hid ((zb1 st fs))))))])),[]⟩):Option CT)) st fs b
 |_,_=>none
set_option maxHeartbeats 4000000 in
theorem zfI:zx Tryz.prog 123 (Vj alg):=by
 intro args hp r h;unfold Vj at h;split at h<;>cases h
 rename_i st fs b
 revert fs;intro(fs:List Fld)
 simp only [CT.Good,zi];intro hneed;obtain⟨⟨hfl,hf⟩,hb⟩:=hneed;generalize hc:zb1 st fs=c;generalize ht:writeT st fs b=t;have hwf:=zak (n:=st);have hdl:=vz st;have hhl:=zpp (st:=st);have hbl:=vz (b.length:Int);have hclen:[99,111,110,116,101,110,116,45,108,101,110,103,116,104]=zvn:=rfl
 refine spcG zh mixed Tryz.func123 (by kernel_rfl) { rl:=[0],keep:=some [0,1,2,3,4,6,7,8,37,38,39]} [zdz,zdy,Wh,X9,qX,qW,zm3,zm2] (by kernel_rfl) ?_
 intro I X hI hX
 refine orcL ?_;go_invoke;refine orcS (by kernel_rfl) ?_
 simp only [zq,Nat.reduceAdd];rw [hclen]
 (repeat' (first|refine ja ?_ ?_|intro _))
 all_goals try(subst hI;(simp only [nrmA,nrmB,nrlB,reduceCtorEq] at *);first|done|trivial|(unfold writeT at ht;unfold zb1 at ht hc;((repeat(first|rewrite [if_pos (by first|omega|assumption|(simp only [*,or_self,or_true,true_or,or_false,false_or,jf,jg,jd,je,and_self,and_true,true_and];done)|(simp only [*];omega)|(simp [*];done)|(simp [*];omega))] at hc|rewrite [if_neg (by first|omega|assumption|(simp only [*,or_self,or_true,true_or,or_false,false_or,jf,jg,jd,je,and_self,and_true,true_and];done)|(simp only [*];omega)|(simp [*];done)|(simp [*];omega))] at hc)));subst hc;((repeat(first|rewrite [if_pos (by first|omega|assumption|(simp only [*,or_self,or_true,true_or,or_false,false_or,jf,jg,jd,je,and_self,and_true,true_and];done)|(simp only [*];omega)|(simp [*];done)|(simp [*];omega))] at ht|rewrite [if_neg (by first|omega|assumption|(simp only [*,or_self,or_true,true_or,or_false,false_or,jf,jg,jd,je,and_self,and_true,true_and];done)|(simp only [*];omega)|(simp [*];done)|(simp [*];omega))] at ht)));subst ht;exact⟨rfl,rfl⟩)|(have:=hwf ‹_›;simp only [jk,jh,ji];omega)|(have:=hwf ‹_›;omega)|exact⟨by omega,by decide,hf⟩)
 have hok:UN st≠[]∧fs.length<16∧¬ 0<(valsF fs zvn).length:=by
  subst hI;simp only [nrmA,nrmB,nrlB,reduceCtorEq] at *
  exact⟨by assumption,by omega,by omega⟩
 have hc2:c=badF fs:=by
  rw [← hc,zb1,if_neg hok.1,if_neg (by omega),if_neg hok.2.2]
 have ht2:badF fs=0→t=zir st++tN fs++zhJ b.length++b:=fun h=>by
  rw [← ht,writeT,hc,hc2,if_pos h]
 have ht3:badF fs≠0→t=[]:=fun h=>by rw [← ht,writeT,hc,hc2,if_neg h]
 refine zB hI zh mixed [zdz,zdy,Wh,X9,qX,qW,zm3,zm2] hX [1,3,4,37,38,39] (fun(g:Nat × Str)=>match g with|(i,o)=>i≤fs.length∧o=zir st++tN (fs.take i)∧badF fs=badF (fs.drop i)) (fun(g:Nat × Str)=>match g with|(i,o)=>⟨[(1,.v (.one (.ptr 0 0))),(3,.v (.one (.p (.int .i64 0)))),(4,.v (.one (.row 1))),(37,.v (.one (.p (.list .fld fs)))),(38,.v (.one (.p (.int .i64 ((I.len (α:=Fld) fs)))))),(39,.v (.one (.p (.int .i64 i))))],[.pack [.obj 128 [(.p (.int .i64 st)),(.p (.list .fld fs)),(.p (.list .byte b))]],.row .byte 5 o],68,none⟩) (fun(g:Nat × Str)=>match g with|(i,o)=>fs.length - i) (0,(I.app (I.app (I.app (I.app ([72,84,84,80,47,49,46,49,32]:Str) (I.hid (decS st))) [32]) (I.hid (UN st))) [13,10])) (by kernel_rfl) (by kernel_rfl) ?_ ?_
 · refine⟨jM _,?_,rfl⟩
   subst hI;simp only [YL,zi,zir,List.take_zero,tN,List.append_nil]
 rintro⟨i,o⟩ ⟨h1,h2,h3⟩ A hA;simp only at hA h1 h2 h3
 refine orcL ?_;go_invoke;refine orcS (by kernel_rfl) ?_
 simp only [zq,Nat.reduceAdd];subst hI;simp only [nrmA,nrmB,nrlB,reduceCtorEq]
 have hx:i<fs.length→(fs.getD i ⟨[],[]⟩) ∈ fs:=fun h=>by rw [show fs.getD i ⟨[],[]⟩=fs[i] by simp [h]];exact List.getElem_mem h
 have hd:i<fs.length→_:=fun h=>zhu (fs:=fs) (i:=i) h;have hk:i<fs.length→_:=fun h=>zde (fs:=fs) (i:=i) h
 have hol:(tN (fs.take i)).length≤202 * 16:=by
  have:=Ud (fs.take i);rw [jv] at this;have:=hok.2.1;omega
 have hhl:=hhl hok.1
 have hol2:o.length≤4000:=by rw [h2,jk];omega
 have hend: ¬ i<fs.length→badF fs=0∧tN (fs.take i)=tN fs:=fun h=>by
  rw [h3,jF (by omega),jq (by omega)];exact⟨rfl,rfl⟩
 have hfi:=fun h=>hf _ (hx h);have htl:=fun f=>zas f;generalize fs.getD i ⟨[],[]⟩=x at *;have e0:(⟨x.name,x.value⟩:Fld)=x:=rfl;rw [e0];have htl:=htl x
 refine⟨fun c1=>⟨⟨by omega,by omega⟩,⟨by omega,by omega⟩,hfi (by omega),fun c2=> ?_,fun c2=>⟨?_,?_,by omega,?_⟩⟩,fun c1=> ?_⟩
 · have hd:=hd (by omega)
   rw [if_neg c2] at hd
   exact⟨(ht3 (by rw [h3,hd];exact c2)).symm,by rw [hc2,h3,hd]⟩
 · simp only [jh,ji];omega
 · simp only [jk,jh,ji];omega
 · have hd:=hd (by omega)
   rw [if_pos c2] at hd
   exact hA (i+1,o++((textF x).1++[13,10])) ⟨by simp only;omega,by simp only;rw [hk (by omega),h2];simp only [jo],by simp only;rw [h3,hd]⟩ (by simp only;omega)
 · obtain⟨e1,e2⟩:=hend (by omega)
   simp only [jk,jh,ji]
   refine⟨by omega,by omega,by omega,by omega,by omega,?_,by rw [hc2,e1]⟩
   rw [ht2 e1,h2,e2];unfold zhJ;simp only [jo]
def zow:Know Tryz.prog:=⟨123,Vj,zfI⟩
def zov:Know Tryz.prog:=⟨123,fun I=>zy I (Vj I),zf zfI⟩
end Go.Proofs.YtkjepecoodjbmaaGreatDoor
namespace Go.Proofs.YtkjepecoodjbmaaGreatDoor
open Go Go.Sep Go.Ab
set_option maxRecDepth 100000
def zbA (s p:Str):Str × Bool:=if s.length<p.length∨lowS (s.take p.length)≠p then([],false) else(s.drop p.length,true)
def zeC (I:Alg) (args:List D) (hp:List HO):Option CT:=match args,hp with
 |[.v (.one (.p (.str s))),.v (.one (.p (.str p)))],[]=>(fun(s p:Str)=>(some (.one ⟨I.hid (s.length≤1000000∧p.length≤100),(.ret (.tup [(.one (.p (.str (I.hid ((zbA s p).1))))),(.one (.p (.bool (I.hid ((zbA s p).2)))))])),[]⟩):Option CT)) s p
 |_,_=>none
theorem zp2:zx Tryz.prog 301 (zeC alg):=by
 intro args hp r h;unfold zeC at h;split at h<;>cases h
 rename_i s p;simp only [CT.Good,zi];intro hneed;obtain⟨h1,h2⟩:=hneed;generalize hr:zbA s p=r;obtain⟨a,k⟩:=r
 refine spcG zh mixed Tryz.func301 (by kernel_rfl) { keep:=some [0,1,4,5]} [vg,ve] (by kernel_rfl) ?_
 intro I X hI hX
 refine orcL ?_;go_invoke;refine orcS (by kernel_rfl) ?_
 simp only [zq,Nat.reduceAdd];subst hI;unfold zbA at hr;simp only [nrmA,nrmB,nrlB,reduceCtorEq]
 (repeat' (first|refine ja ?_ ?_|intro _))<;>first|omega|exact jb|exact jc ‹False›|skip
 all_goals first
  |omega
  |(simp only [jv];omega)
  |(rw [if_pos (Or.inl (by omega))] at hr;cases hr;rfl)
  |(rw [if_pos (Or.inr ‹_›)] at hr;cases hr;rfl)
  |(rw [if_neg (fun h=>h.elim (fun h=>by omega) (fun h=>h ‹_›))] at hr;cases hr;first|rfl|exact jq (by simp))
def zp1:Know Tryz.prog:=⟨301,zeC,zp2⟩
def zp0:Know Tryz.prog:=⟨301,fun I=>zy I (zeC I),zf zp2⟩
theorem zxm {r:Str} {i:Nat} (h:i<r.length) (k: ¬ r.getD i 0=37):pctM (r.drop i)=(pctM (r.drop (i+1))).map (r.getD i 0:: ·):=by
 have e:r.getD i 0=r[i]:=by simp [h]
 rw [e] at k;rw [jE h,pctM.eq_def];simp only;rw [if_pos k,e]
theorem zxl {r:Str} {i:Nat} (h:i<r.length) (k:r.getD i 0=37) (h2:r.length≤i+2):pctM (r.drop i)=none:=by
 have e:r.getD i 0=r[i]:=by simp [h]
 rw [e] at k;rw [jE h,pctM.eq_def];simp only [k,ne_eq,jf,if_false]
 have hl:(r.drop (i+1)).length≤1:=by rw [jC];omega
 match hd:r.drop (i+1),hl with
 |[],_=>rfl
 |[_],_=>rfl
 |_::_::_,h=>simp at h
theorem zxn {r:Str} {i:Nat} (h:i+2<r.length) (k:r.getD i 0=37):pctM (r.drop i)=if hexK ((r.getD (i+1) 0).toNat:Int)<0∨hexK ((r.getD (i+2) 0).toNat:Int)<0 then none else(pctM (r.drop (i+3))).map (UInt8.ofNat (16 * hexK ((r.getD (i+1) 0).toNat:Int)+hexK ((r.getD (i+2) 0).toNat:Int)).toNat:: ·):=by
 have h0:i<r.length:=by omega
 have h1:i+1<r.length:=by omega
 have e0:r.getD i 0=r[i]:=by simp [h0]
 have e1:r.getD (i+1) 0=r[i+1]:=by simp [h1]
 have e2:r.getD (i+2) 0=r[i+2]:=by simp [h]
 rw [e0] at k
 rw [jE h0,jE h1,jE h,pctM,if_neg (by simp [k]),e1,e2]
def zeB (I:Alg) (args:List D) (hp:List HO):Option CT:=match args,hp with
 |[.v (.one (.p (.str s)))],[]=>(fun(s:Str)=>(some (.one ⟨I.hid (s.length≤1000000),(.ret (.tup [(.one (.p (.str (I.hid ((extV s)))))),(.one (.p (.bool (I.hid ((extB s))))))])),[]⟩):Option CT)) s
 |_,_=>none
theorem zpZ:zx Tryz.prog 299 (zeB alg):=by
 intro args hp r h;unfold zeB at h;split at h<;>cases h
 rename_i s;simp only [CT.Good,zi];intro hneed;unfold extV extB;generalize hr:extM s=r
 refine spcG zh mixed Tryz.func299 (by kernel_rfl) { nr:=[6],keep:=some [0,2,3,4,5,6,7]} [zcK,zcJ,zp1,zp0] (by kernel_rfl) ?_
 intro I X hI hX
 refine orcL ?_;go_invoke;refine orcS (by kernel_rfl) ?_
 simp only [zq,Nat.reduceAdd];rw [show([117,116,102,45,56,39,39]:Str)=utfS from rfl]
 have hc:extM s=if(zbA s utfS).2=false then none else pctM (zbA s utfS).1:=by
  unfold extM zbA
  by_cases h:s.length<7∨lowS (s.take 7)≠utfS
  · rw [if_pos h,if_pos (show s.length<utfS.length∨lowS (s.take utfS.length)≠utfS from h)];rfl
  · rw [if_neg h,if_neg (show ¬ (s.length<utfS.length∨lowS (s.take utfS.length)≠utfS) from h)];rfl
 have hl:(zbA s utfS).1.length≤1000000:=by
  unfold zbA
  split
  · simp
  · simp only [jC];omega
 rw [hc] at hr;generalize(zbA s utfS).2=k at *;generalize(zbA s utfS).1=R at *
 have h7:utfS.length≤100:=by decide
 (repeat' (first|refine ja ?_ ?_|intro _))
 all_goals try(subst hI;(simp only [nrmA,nrmB,nrlB,reduceCtorEq] at *);first|done|trivial|omega|exact⟨hneed,h7⟩|(rw [if_pos ‹_›] at hr;rw [← hr];exact⟨rfl,rfl⟩))
 have hk:k=true:=by
  subst hI;simp only [nrmA,nrmB,nrlB,reduceCtorEq] at *
  simpa using ‹_›
 rw [hk] at hr;simp only [je,if_false] at hr
 rw [show I.hid R=R by subst hI;rfl]
 refine zB hI zh mixed [zcK,zcJ,zp1,zp0] hX [4,6,7] (fun(g:Nat × Str)=>match g with|(i,b)=>i≤R.length∧b.length≤i∧r=(pctM (R.drop i)).map (b++ ·)) (fun(g:Nat × Str)=>match g with|(i,b)=>⟨[(4,.v (.one (.p (.str R)))),(6,.v (.one (.row 0))),(7,.v (.one (.p (.int .i64 i))))],[.row .byte 5 b],72,none⟩) (fun(g:Nat × Str)=>match g with|(i,b)=>R.length - i) (0,[]) (by kernel_rfl) (by kernel_rfl) ?_ ?_
 · refine⟨jM _,jL _,?_⟩
   rw [List.drop_zero,hr]
   cases r<;>rfl
 rintro⟨i,b⟩ ⟨h1,h2,h3⟩ A hA;simp only at hA h1 h2 h3
 refine orcL ?_;go_invoke;refine orcS (by kernel_rfl) ?_
 simp only [zq,Nat.reduceAdd];subst hI;simp only [nrmA,nrmB,nrlB,reduceCtorEq]
 have e1:((i:Int)+1).toNat=i+1:=by omega
 have e2:((i:Int)+2).toNat=i+2:=by omega
 rw [e1,e2]
 have b37:(R.getD i 0).toNat=37↔R.getD i 0=37:=⟨fun h=>UInt8.toNat_inj.1 h,fun h=>by rw [h];rfl⟩
 have g0:i<R.length→¬ R.getD i 0=37→_:=fun h k=>zxm h k;have g1:i<R.length→R.getD i 0=37→R.length≤i+2→_:=fun h k=>zxl h k;have g2:i+2<R.length→R.getD i 0=37→_:=fun h k=>zxn h k;have l0:=(R.getD i 0).toNat_lt;have l1:=(R.getD (i+1) 0).toNat_lt;have l2:=(R.getD (i+2) 0).toNat_lt
 have m1:=zep (k:=((R.getD (i+1) 0).toNat:Int)) ⟨by omega,by omega⟩
 have m2:=zep (k:=((R.getD (i+2) 0).toNat:Int)) ⟨by omega,by omega⟩
 have hend: ¬ i<R.length→r=some b:=fun h=>by rw [h3,jF (by omega)];simp [pctM]
 have hA2:=fun(c:UInt8) (j:Nat) (h:i<j) (hj:j≤R.length) (e:pctM (R.drop i)=(pctM (R.drop j)).map (c:: ·))=>hA (j,b++[c]) ⟨hj,by rw [jk,jr];omega,by rw [h3,e,Option.map_map];congr 1;funext x;simp⟩ (by simp only;omega)
 generalize R.getD i 0=x0 at *;generalize R.getD (i+1) 0=x1 at *;generalize R.getD (i+2) 0=x2 at *
 refine⟨fun c=>⟨by omega,fun c2=>⟨by omega,by omega,by simp only [jr];omega,by omega,?_⟩,fun c2=> ?_⟩,fun c=> ?_⟩
 · have:=hA2 x0 (i+1) (by omega) (by omega) (g0 (by omega) (fun h=>c2 (by have:=b37.2 h;omega)))
   simp only [Int.natCast_add,Int.natCast_one] at this;exact this
 · have hx:x0=37:=b37.1 (by omega)
   subst hx
   have gs:R.length≤i+2→r=none:=fun h=>by rw [h3,g1 (by omega) rfl h];rfl
   have gm:=fun h=>g2 h rfl
   have gn:i+2<R.length→(hexK (x1.toNat:Int)<0∨hexK (x2.toNat:Int)<0)→r=none:=fun h k=>by rw [h3,gm h,if_pos k];rfl
   have gy:i+2<R.length→¬ hexK (x1.toNat:Int)<0→¬ hexK (x2.toNat:Int)<0→_:=fun h k k2=>hA2 (UInt8.ofNat (16 * hexK (x1.toNat:Int)+hexK (x2.toNat:Int)).toNat) (i+3) (by omega) (by omega) (by rw [gm h,if_neg (fun q=>q.elim k k2)])
   have wr: ¬ hexK (x1.toNat:Int)<0→¬ hexK (x2.toNat:Int)<0→IntKind.u8.wrap (16 * hexK (x1.toNat:Int)+hexK (x2.toNat:Int))=16 * hexK (x1.toNat:Int)+hexK (x2.toNat:Int):=fun k k2=>zw7 _ ⟨by omega,by omega⟩
   (repeat' (first|refine ja ?_ ?_|intro _))<;>first|omega|exact jb|exact jc ‹False›|skip
   all_goals first
    |omega
    |(rw [gs (by omega)];done)
    |(rw [gs (by omega)];rfl)
    |(rw [gn (by omega) (Or.inl ‹_›)];rfl)
    |(rw [gn (by omega) (Or.inr ‹_›)];rfl)
    |(rw [wr ‹_› ‹_›];omega)
    |(simp only [jr];omega)
    |(rw [wr ‹_› ‹_›,show(i:Int)+2+1=((i+3:Nat):Int) by omega];exact gy (by omega) ‹_› ‹_›)
 · rw [hend (by omega)]
   exact⟨rfl,rfl⟩
def zvj:Know Tryz.prog:=⟨299,zeB,zpZ⟩
def zvi:Know Tryz.prog:=⟨299,fun I=>zy I (zeB I),zf zpZ⟩
end Go.Proofs.YtkjepecoodjbmaaGreatDoor
namespace Go.Proofs.YtkjepecoodjbmaaGreatDoor
open Go Go.Sep Go.Ab
set_option maxRecDepth 100000
theorem zdZ: ∀ (n:Nat) (r:Str),r.length≤n→∀ v,pctM r=some v→v.length≤r.length
 |n,[],_,v,h=>by rw [pctM] at h;cases h;exact jL _
 |0,c::r,h,_,_=>by simp at h
 | n + 1,c::r,hl,v,h=>by
   rw [jh] at hl;rw [pctM.eq_def] at h;simp only at h
   split at h
   · cases hp:pctM r with
     |none=>rw [hp] at h;cases h
     | some u=>
       rw [hp] at h;cases h
       have:=zdZ n r (by omega) u hp
       simp only [jh];omega
   · split at h
     · rename_i a b r'
       split at h
       · cases h
       · cases hp:pctM r' with
         |none=>rw [hp] at h;cases h
         | some u=>
           rw [hp] at h;cases h
           have:=zdZ n r' (by simp only [jh] at hl;omega) u hp
           simp only [jh];omega
     · cases h
theorem zsN (s:Str):(extV s).length≤s.length:=by
 unfold extV extM
 split
 · simp
 · cases h:pctM (s.drop 7) with
   |none=>simp
   | some v=>
     have:=zdZ _ _ (jL _) v h;rw [jC] at this;simp only [Option.getD_some];omega
def PsOk (N:Nat) (l:List Fld):Prop:=l.length≤8∧∀ f ∈ l,f.value.length≤N
theorem zo2 (N:Nat): ∀ (n:Nat) (s:Str) (ps:List Fld),s.length≤N→PsOk N ps→PsOk N (medL n s ps).2.1
 |0,s,ps,_,h=>h
 | n + 1, s,ps,hs,h=>by
   rw [medL];have h1:=vJ (s.drop 1);have h2:=zd0 (skS (s.drop 1));have h3:=vJ (parM (skS (s.drop 1))).2.2;rw [jC] at h1
   split
   · split
     · exact h
     · split
       · exact h
       · split
         · exact h
         · rename_i h8
           refine zo2 N n _ _ (by omega) ⟨by rw [jk,jr];have:=h.1;omega,fun f hf=> ?_⟩
           rcases List.mem_append.1 hf with h5|h5
           · exact h.2 f h5
           · rw [List.mem_singleton.1 h5];omega
   · split<;>exact h
theorem zfO (s:Str):PsOk s.length (wz s).1.params:=by
 have h0:PsOk s.length []:=⟨by decide,fun f h=>by cases h⟩
 have hb: ∀ w t:Str,t.length≤s.length→PsOk s.length (medB w t).2.1.params:=fun w t ht=>by
  have h1:=vJ t
  exact zo2 s.length _ _ [] (by omega) h0
 have h1:=vJ s;have h2:=vN (skS s);have h3:=vN ((tokE (skS s)).drop 1);rw [jC] at h3
 have hm:PsOk s.length (wR s).2.1.params:=by
  unfold wR medA
  split
  · exact h0
  · split
    · split
      · exact h0
      · exact hb _ _ (by omega)
    · exact hb _ _ (by omega)
 unfold wz
 split
 · exact h0
 · split
   · exact hm
   · exact h0
theorem zkM {N:Nat} {l:List Fld} (h: ∀ f ∈ l,f.value.length≤N) (n:Str):(getP l n).1.length≤N:=by
 unfold getP
 cases hf:l.find? (fun f=>f.name == n) with
 |none=>simp
 |some f=>exact h f (List.mem_of_find?_eq_some hf)
theorem zr5 {N:Nat} {l:List Fld} (h: ∀ f ∈ l,f.value.length≤N) (n:Str):(oneF (valsF l n)).1.length≤N:=by
 unfold oneF
 split
 · simp
 · split
   · rename_i h1
     match hv:valsF l n,h1 with
     | [x],_=>
       have:x ∈ valsF l n:=by rw [hv];exact List.mem_singleton.2 rfl
       unfold valsF at this;obtain⟨f,hf,rfl⟩:=List.mem_map.1 this;exact h f (List.mem_filter.1 hf).1
   · simp
def QX (I:Alg) (args:List D) (hp:List HO):Option CT:=match args,hp with
 |[.v (.one (.p (.list .fld l)))],[]=>(fun(l:List Fld)=>(some (.one ⟨I.hid (l.length≤1000∧∀ f ∈ l,f.name.length≤1000000∧f.value.length≤1000000),(.ret (.tup [(.agg [(.p (.str (I.hid ((Zy l).1.name)))),(.p (.str (I.hid ((Zy l).1.file)))),(.p (.str (I.hid ((Zy l).1.type)))),.nilS]),(.one (.p (.int .i64 (I.hid ((Zy l).2)))))])),[]⟩):Option CT)) l
 |_,_=>none
theorem zla:zx Tryz.prog 298 (QX alg):=by
 intro args hp r h;unfold QX at h;split at h<;>cases h
 rename_i l
 revert l;intro(l:List Fld)
 simp only [CT.Good,zi];intro hneed;obtain⟨hl,hf⟩:=hneed;generalize hr:Zy l=r
 refine spcG zh mixed Tryz.func298 (by kernel_rfl) { raw:=true,keep:=some [0,2,3,4,5,6,7,8,9,10,11,12,13,77]} [YG,YF,zsK,zsJ,zvj,zvi,U8,U7,vI,vH] (by kernel_rfl) ?_
 intro I X hI hX
 refine orcL ?_;go_invoke;refine orcS (by kernel_rfl) ?_
 simp only [zq,Nat.reduceAdd]
 try rw [show([99,111,110,116,101,110,116,45,100,105,115,112,111,115,105,116,105,111,110]:Str)=qf from rfl]
 try rw [show([99,111,110,116,101,110,116,45,116,121,112,101]:Str)=zlp from rfl]
 try rw [show([102,111,114,109,45,100,97,116,97]:Str)=ztL from rfl]
 try rw [show([102,105,108,101,110,97,109,101]:Str)=zsF from rfl]
 try rw [show([102,105,108,101,110,97,109,101,42]:Str)=zg6 from rfl]
 try rw [show([110,97,109,101]:Str)=zuC from rfl]
 have hk1:qf.length≤1000000:=by decide
 have hk2:zlp.length≤1000000:=by decide
 have hv:=zr5 (fun f h=>(hf f h).2) qf;have hp:=zfO (oneF (valsF l qf)).1;have hg:=fun n=>zkM hp.2 n;have hg1:=hg zg6;have hg2:=hg zsF;have hx:=zsN (getP (wz (oneF (valsF l qf)).1).1.params zg6).1;unfold Zy at hr;subst hI;simp only [nrmA,nrmB,nrlB,reduceCtorEq];have hpl:=hp.1;clear hp hg;generalize oneF (valsF l zlp)=t at *;generalize getP (wz (oneF (valsF l qf)).1).1.params zg6=x at *;generalize getP (wz (oneF (valsF l qf)).1).1.params zsF=f at *;generalize getP (wz (oneF (valsF l qf)).1).1.params zuC=n at *;generalize wz (oneF (valsF l qf)).1=m at *;generalize oneF (valsF l qf)=a at *;unfold zrY zur partT at hr
 (repeat' (first|refine ja ?_ ?_|intro _))<;>first|omega|exact jb|exact jc ‹False›|skip
 all_goals first
  |omega
  |exact hl
  |exact hk1
  |exact hk2
  |exact(hf _ ‹_›).1
  |exact(hf _ ‹_›).2
  |exact absurd (‹extB x.fst=true›.symm.trans ‹extB x.fst=false›) (by decide)
  |(subst hr;clear hf hX hv hg1 hg2 hx hpl hl hk1 hk2;simp [*,prt0];done)
def zk9:Know Tryz.prog:=⟨298,QX,zla⟩
def zk8:Know Tryz.prog:=⟨298,fun I=>zy I (QX I),zf zla⟩
end Go.Proofs.YtkjepecoodjbmaaGreatDoor
namespace Go.Proofs.YtkjepecoodjbmaaGreatDoor
open Go Go.Sep Go.Ab
set_option maxRecDepth 100000
def zvo:Cfg:= { sl:=[⟨207,0,.byte,some 5⟩]}
def QD (I:Alg) (args:List D) (hp:List HO):Option CT:=match args,hp with
 |[],[]=>(fun(_:Unit)=>(some (.one ⟨I.hid (True),(.ret (.v (.one (.ptr 0 0)))),[.pack [.obj 207 [(.row 1),(.p (.bool false)),(.p (.int .i64 0))],.row .byte 5 (I.hid ([]))]]⟩):Option CT)) ()
 |_,_=>none
theorem zkB:zx Tryz.prog 89 (QD alg):=by
 intro args hp r h;unfold QD at h;split at h<;>cases h
 simp only [CT.Good,zi];intro _
 refine spcG zh mixed Tryz.func89 (by kernel_rfl) { zvo with keep:=some [0]} [] (by kernel_rfl) ?_
 intro I X hI hX
 refine orcL ?_;go_invoke;refine orcS (by kernel_rfl) ?_
 simp only [zq,Nat.reduceAdd];trivial
def QC:Know Tryz.prog:=⟨89,QD,zkB⟩
def QB:Know Tryz.prog:=⟨89,fun I=>zy I (QD I),zf zkB⟩
def Vy (I:Alg) (args:List D) (hp:List HO):Option CT:=match args,hp with
 |[.v (.one (.ptr 0 0)),.v (.one (.p (.int .i64 c)))],[.pack [.obj 207 [(.row 1),(.p (.bool cr)),(.p (.int .i64 code))],.row .byte 5 b]]=>(fun(b:Str) (cr:Bool) (code c:Int)=>(some (.one ⟨I.hid (True),(.ret (.tup [(.one (.p (.str (I.hid ([]))))),(.one (.p (.bool false))),(.one (.p (.int .i64 c)))])),[.pack [.obj 207 [(.row 1),(.p (.bool cr)),(.p (.int .i64 c))],.row .byte 5 b]]⟩):Option CT)) b cr code c
 |_,_=>none
theorem zf4:zx Tryz.prog 169 (Vy alg):=by
 intro args hp r h;unfold Vy at h;split at h<;>cases h
 rename_i c cr code b;simp only [CT.Good,zi];intro _
 refine spcG zh mixed Tryz.func169 (by kernel_rfl) { zvo with keep:=some [0,1,4,5,6]} [] (by kernel_rfl) ?_
 intro I X hI hX
 refine orcL ?_;go_invoke;refine orcS (by kernel_rfl) ?_
 simp only [zq,Nat.reduceAdd];subst hI;simp only [nrmA,nrmB,nrlB,reduceCtorEq,HO.pack.injEq,HO.obj.injEq]
 try trivial
def zo7:Know Tryz.prog:=⟨169,Vy,zf4⟩
def zo6:Know Tryz.prog:=⟨169,fun I=>zy I (Vy I),zf zf4⟩
def Vx (I:Alg) (args:List D) (hp:List HO):Option CT:=match args,hp with
 |[.v (.one (.ptr 0 0)),.v (.one (.p (.int .u8 k)))],[.pack [.obj 207 [(.row 1),(.p (.bool cr)),(.p (.int .i64 code))],.row .byte 5 b]]=>(fun(b:Str) (cr:Bool) (code k:Int)=>(some (.one ⟨I.hid (0≤k∧k≤255∧b.length≤1000000),(.ret (.tup [(.one (.p (.str (I.hid ((lnF ⟨b,cr,code⟩ (UInt8.ofNat k.toNat)).2.1))))),(.one (.p (.bool (I.hid ((lnF ⟨b,cr,code⟩ (UInt8.ofNat k.toNat)).2.2.1))))),(.one (.p (.int .i64 (I.hid ((lnF ⟨b,cr,code⟩ (UInt8.ofNat k.toNat)).2.2.2)))))])),[.pack [.obj 207 [(.row 1),(.p (.bool (I.hid ((lnF ⟨b,cr,code⟩ (UInt8.ofNat k.toNat)).1.cr)))),(.p (.int .i64 (I.hid ((lnF ⟨b,cr,code⟩ (UInt8.ofNat k.toNat)).1.code))))],.row .byte 5 (I.hid ((lnF ⟨b,cr,code⟩ (UInt8.ofNat k.toNat)).1.b))]]⟩):Option CT)) b cr code k
 |_,_=>none
set_option maxHeartbeats 4000000 in
theorem zf3:zx Tryz.prog 121 (Vx alg):=by
 intro args hp r h;unfold Vx at h;split at h<;>cases h
 rename_i k cr code b;simp only [CT.Good,zi];intro hneed;obtain⟨hk0,hk1,hbl⟩:=hneed
 have hkk:((UInt8.ofNat k.toNat).toNat:Int)=k:=by rw [UInt8.toNat_ofNat',Nat.mod_eq_of_lt (by omega)];omega
 generalize hr:lnF ⟨b,cr,code⟩ (UInt8.ofNat k.toNat)=r
 have h10:UInt8.ofNat k.toNat=10↔k=10:=⟨fun h=>by rw [h] at hkk;exact hkk.symm,fun h=>by subst h;rfl⟩
 have h13:UInt8.ofNat k.toNat=13↔k=13:=⟨fun h=>by rw [h] at hkk;exact hkk.symm,fun h=>by subst h;rfl⟩
 unfold lnF zvR at hr;rw [hkk] at hr;simp only [h10,h13] at hr;obtain⟨⟨rb,rc,rcode⟩,rt,ro,re⟩:=r
 refine spcG zh mixed Tryz.func121 (by kernel_rfl) { zvo with nr:=[8],keep:=some [0,1,4,5,6,7]} [sW,YN,zo7,zo6] (by kernel_rfl) ?_
 intro I X hI hX
 refine orcL ?_;go_invoke;refine orcS (by kernel_rfl) ?_
 simp only [zq,Nat.reduceAdd];subst hI;simp only [nrmA,nrmB,nrlB,reduceCtorEq,HO.pack.injEq,HO.obj.injEq];generalize UInt8.ofNat k.toNat=c at *;cases cr
 all_goals simp only [jd,if_false,if_true] at hr
 all_goals(repeat' (first|refine ja ?_ ?_|intro _))<;>first|omega|exact jb|exact jc ‹False›|skip
 all_goals first
  |omega
  |(exfalso;simp at *;done)
  |(((repeat(first|rewrite [if_pos (by first|omega|assumption|(simp only [*,or_self,or_true,true_or,or_false,false_or,jf,jg,jd,je,and_self,and_true,true_and];done)|(simp only [*];omega)|(simp [*];done)|(simp [*];omega))] at hr|rewrite [if_neg (by first|omega|assumption|(simp only [*,or_self,or_true,true_or,or_false,false_or,jf,jg,jd,je,and_self,and_true,true_and];done)|(simp only [*];omega)|(simp [*];done)|(simp [*];omega))] at hr)));cases hr;first|rfl|done|with_reducible assumption|exact⟨rfl,rfl,rfl⟩|(simp;done)|(simp;omega))
def rP:Know Tryz.prog:=⟨121,Vx,zf3⟩
def rO:Know Tryz.prog:=⟨121,fun I=>zy I (Vx I),zf zf3⟩
end Go.Proofs.YtkjepecoodjbmaaGreatDoor
namespace Go.Proofs.YtkjepecoodjbmaaGreatDoor
open Go Go.Sep Go.Ab
set_option maxRecDepth 100000
def cfgF:Cfg:= { sl:=[⟨207,0,.byte,some 5⟩,⟨310,0,.byte,some 5⟩,⟨310,1,.int,some 3⟩,⟨302,3,.fld,some 108⟩,⟨302,7,.evt,some 34⟩]}
def vM (f:Fm):Prop:=f.out.length≤10000000
def fm9 (f:Fm):Prop:=f.out.length≤9000000
theorem u8k {k:Int} (h0:0≤k) (h1:k≤255) (n:Nat) (hn:n<256):(UInt8.ofNat k.toNat=UInt8.ofNat n)=(k=n):=by
 rw [← UInt8.toNat_inj,UInt8.toNat_ofNat',UInt8.toNat_ofNat',Nat.mod_eq_of_lt hn,Nat.mod_eq_of_lt (by omega)]
 exact propext ⟨fun h=>by omega,fun h=>by omega⟩
def V7 (I:Alg) (args:List D) (hp:List HO):Option CT:=match args,hp with
 |[.v (.one (.ptr 0 0)),.v (.agg [(.p (.int .i64 k)),(.p (.str ea)),(.p (.str eb)),(.p (.int .i64 ei)),(.p (.list .fld ef)),(.p (.int .i64 en)),(.p (.list .byte ebs)),(.p (.str ex)),(.p (.str ey)),(.p (.str ez)),(.p (.nl et)),(.p (.int .i64 ec))])],[.abs (.fm ⟨m,hd,bs,p,none,fs,pa,sk,co,out⟩)]=>(fun(m:Str) (hd:Int) (bs:List Int) (p:Int) (fs:List Fld) (pa sk co:Int) (out:List Evt) (k:Int) (ea eb:Str) (ei:Int) (ef:List Fld) (en:Int) (ebs ex ey ez et:Str) (ec:Int)=>(some (.one ⟨I.hid (vM ⟨m,hd,bs,p,none,fs,pa,sk,co,out⟩),(.ret (.tup [])),[.abs (.fm ⟨m,hd,bs,p,none,fs,pa,sk,co,(I.hid (out++[⟨k,⟨ea,eb,ei,ef,en⟩,ebs,⟨ex,ey,ez,et⟩,ec⟩]))⟩)]⟩):Option CT)) m hd bs p fs pa sk co out k ea eb ei ef en ebs ex ey ez et ec
 |_,_=>none
theorem zgR:zx Tryz.prog 296 (V7 alg):=by
 intro args hp r h;unfold V7 at h;split at h<;>cases h
 rename_i k ea eb ei ef en ebs ex ey ez et ec m hd bs p fs pa sk co out
 revert ef bs fs out;intro(ef:List Fld) (bs:List Int) (fs:List Fld) (out:List Evt)
 simp only [CT.Good,zi];intro hneed;unfold vM at hneed;simp only at hneed
 refine spcG zh mixed Tryz.func296 (by kernel_rfl) { cfgF with keep:=some [0,1,3]} [] (by kernel_rfl) ?_
 intro I X hI hX
 refine orcL ?_;go_invoke;refine orcS (by kernel_rfl) ?_
 simp only [zq,Nat.reduceAdd];subst hI;simp only [nrmA,nrmB,nrlB,reduceCtorEq,HO.abs.injEq,Gh.fm.injEq,Fm.mk.injEq]
 (repeat' (first|refine ja ?_ ?_|intro _))<;>first|omega|exact jb|exact jc ‹False›|skip
 all_goals first
  |omega
  |rfl
  |with_reducible assumption
  |(simp only [jh,ji];omega)
  |(unfold vM;simp only;omega)
  |(simp;done)
def uf:Know Tryz.prog:=⟨296,V7,zgR⟩
def vZ:Know Tryz.prog:=⟨296,fun I=>zy I (V7 I),zf zgR⟩
def V6 (I:Alg) (args:List D) (hp:List HO):Option CT:=match args,hp with
 |[.v (.one (.ptr 0 0)),.v (.agg [(.p (.int .i64 k)),(.p (.str ea)),(.p (.str eb)),(.p (.int .i64 ei)),(.p (.list .fld ef)),(.p (.int .i64 en)),(.p (.list .byte ebs)),(.p (.str ex)),(.p (.str ey)),(.p (.str ez)),(.p (.nl et)),(.p (.int .i64 ec))])],[.abs (.fm ⟨m,hd,bs,p,some ln,fs,pa,sk,co,out⟩)]=>(fun(m:Str) (hd:Int) (bs:List Int) (p:Int) (ln:Ln) (fs:List Fld) (pa sk co:Int) (out:List Evt) (k:Int) (ea eb:Str) (ei:Int) (ef:List Fld) (en:Int) (ebs ex ey ez et:Str) (ec:Int)=>(some (.one ⟨I.hid (vM ⟨m,hd,bs,p,some ln,fs,pa,sk,co,out⟩),(.ret (.tup [])),[.abs (.fm ⟨m,hd,bs,p,some ln,fs,pa,sk,co,(I.hid (out++[⟨k,⟨ea,eb,ei,ef,en⟩,ebs,⟨ex,ey,ez,et⟩,ec⟩]))⟩)]⟩):Option CT)) m hd bs p ln fs pa sk co out k ea eb ei ef en ebs ex ey ez et ec
 |_,_=>none
theorem zgQ:zx Tryz.prog 296 (V6 alg):=by
 intro args hp r h;unfold V6 at h;split at h<;>cases h
 rename_i k ea eb ei ef en ebs ex ey ez et ec m hd bs p ln fs pa sk co out
 revert ef bs fs out;intro(ef:List Fld) (bs:List Int) (fs:List Fld) (out:List Evt)
 simp only [CT.Good,zi];intro hneed;unfold vM at hneed;simp only at hneed
 refine spcG zh mixed Tryz.func296 (by kernel_rfl) { cfgF with keep:=some [0,1,3]} [uf,vZ] (by kernel_rfl) ?_
 intro I X hI hX
 refine orcL ?_;go_invoke;refine orcS (by kernel_rfl) ?_
 simp only [zq,Nat.reduceAdd];subst hI;simp only [nrmA,nrmB,nrlB,reduceCtorEq,HO.abs.injEq,Gh.fm.injEq,Fm.mk.injEq]
 (repeat' (first|refine ja ?_ ?_|intro _))<;>first|omega|exact jb|exact jc ‹False›|skip
 all_goals first
  |omega
  |rfl
  |with_reducible assumption
  |(simp only [jh,ji];omega)
  |(unfold vM;simp only;omega)
  |(simp;done)
def uZ:Know Tryz.prog:=⟨296,V6,zgQ⟩
def uY:Know Tryz.prog:=⟨296,fun I=>zy I (V6 I),zf zgQ⟩
theorem zkY (m:Str) (hd:Int) (bs:List Int) (p:Int) (fs:List Fld) (pa sk co:Int) (out:List Evt) (c:Int) (hneed:vM ⟨m,hd,bs,p,none,fs,pa,sk,co,out⟩):Spc Tryz.prog 291 [.v (.one (.ptr 0 0)),.v (.one (.p (.int .i64 c)))] [.abs (.fm ⟨m,hd,bs,p,none,fs,pa,sk,co,out⟩)] (.ret (.tup [])) [.abs (.fm ((xM ⟨m,hd,bs,p,none,fs,pa,sk,co,out⟩ c)))]:=by
 unfold vM at hneed;simp only at hneed
 refine spcG zh mixed Tryz.func291 (by kernel_rfl) { cfgF with keep:=some [0,1]} [uf,vZ,uZ,uY] (by kernel_rfl) ?_
 intro I X hI hX
 refine orcL ?_;go_invoke;refine orcS (by kernel_rfl) ?_
 simp only [zq,Nat.reduceAdd];subst hI;simp only [nrmA,nrmB,nrlB,reduceCtorEq,HO.abs.injEq,Gh.fm.injEq,Fm.mk.injEq]
 (repeat' (first|refine ja ?_ ?_|intro _))<;>first|omega|exact jb|exact jc ‹False›|skip
 all_goals first
  |omega
  |rfl
  |with_reducible assumption
  |(simp only [jh,ji];omega)
  |(unfold vM;simp only;omega)
  |(simp;done)
def Xv (I:Alg) (args:List D) (hp:List HO):Option CT:=match args,hp with
 |[.v (.one (.ptr 0 0)),.v (.one (.p (.int .i64 c)))],[.abs (.fm ⟨m,hd,bs,p,none,fs,pa,sk,co,out⟩)]=>(fun(m:Str) (hd:Int) (bs:List Int) (p:Int) (fs:List Fld) (pa sk co:Int) (out:List Evt) (c:Int)=>(some (.one ⟨I.hid (vM ⟨m,hd,bs,p,none,fs,pa,sk,co,out⟩),(.ret (.tup [])),[.abs (.fm (I.hid ((xM ⟨m,hd,bs,p,none,fs,pa,sk,co,out⟩ c))))]⟩):Option CT)) m hd bs p fs pa sk co out c
 |_,_=>none
theorem zc5:zx Tryz.prog 291 (Xv alg):=by
 intro args hp r h;unfold Xv at h
 split at h
 · cases h;exact fun hn=>zkY _ _ _ _ _ _ _ _ _ _ hn
 · cases h
def zmJ:Know Tryz.prog:=⟨291,Xv,zc5⟩
def zmI:Know Tryz.prog:=⟨291,fun I=>zy I (Xv I),zf zc5⟩
theorem zsB (m:Str) (hd:Int) (bs:List Int) (p:Int) (ln:Ln) (fs:List Fld) (pa sk co:Int) (out:List Evt) (c:Int) (hneed:vM ⟨m,hd,bs,p,some ln,fs,pa,sk,co,out⟩):Spc Tryz.prog 291 [.v (.one (.ptr 0 0)),.v (.one (.p (.int .i64 c)))] [.abs (.fm ⟨m,hd,bs,p,some ln,fs,pa,sk,co,out⟩)] (.ret (.tup [])) [.abs (.fm ((xM ⟨m,hd,bs,p,some ln,fs,pa,sk,co,out⟩ c)))]:=by
 unfold vM at hneed;simp only at hneed
 refine spcG zh mixed Tryz.func291 (by kernel_rfl) { cfgF with keep:=some [0,1]} [uf,vZ,uZ,uY,zmJ,zmI] (by kernel_rfl) ?_
 intro I X hI hX
 refine orcL ?_;go_invoke;refine orcS (by kernel_rfl) ?_
 simp only [zq,Nat.reduceAdd];subst hI;simp only [nrmA,nrmB,nrlB,reduceCtorEq,HO.abs.injEq,Gh.fm.injEq,Fm.mk.injEq]
 (repeat' (first|refine ja ?_ ?_|intro _))<;>first|omega|exact jb|exact jc ‹False›|skip
 all_goals first
  |omega
  |rfl
  |with_reducible assumption
  |(simp only [jh,ji];omega)
  |(unfold vM;simp only;omega)
  |(simp;done)
def Uc (I:Alg) (args:List D) (hp:List HO):Option CT:=match args,hp with
 |[.v (.one (.ptr 0 0)),.v (.one (.p (.int .i64 c)))],[.abs (.fm f)]=>(fun(f:Fm) (c:Int)=>(some (.one ⟨I.hid (vM f),(.ret (.tup [])),[.abs (.fm (I.hid ((xM f c))))]⟩):Option CT)) f c
 |_,_=>none
theorem zgZ:zx Tryz.prog 291 (Uc alg):=by
 intro args hp r h;unfold Uc at h;split at h<;>cases h
 rename_i c f;simp only [CT.Good,zi];intro hneed;obtain⟨m,hd,bs,p,ln,fs,pa,sk,co,out⟩:=f
 cases ln with
 |none=>exact zkY m hd bs p fs pa sk co out c hneed
 |some ln=>exact zsB m hd bs p ln fs pa sk co out c hneed
def tC:Know Tryz.prog:=⟨291,Uc,zgZ⟩
def tu:Know Tryz.prog:=⟨291,fun I=>zy I (Uc I),zf zgZ⟩
theorem zda (m:Str) (hd:Int) (bs:List Int) (p:Int) (fs:List Fld) (pa sk co:Int) (out:List Evt) (k:Int) (hneed:vM ⟨m,hd,bs,p,none,fs,pa,sk,co,out⟩∧0≤k∧k≤255):Spc Tryz.prog 290 [.v (.one (.ptr 0 0)),.v (.one (.p (.int .u8 k)))] [.abs (.fm ⟨m,hd,bs,p,none,fs,pa,sk,co,out⟩)] (.ret (.tup [])) [.abs (.fm ((wS ⟨m,hd,bs,p,none,fs,pa,sk,co,out⟩ (UInt8.ofNat k.toNat))))]:=by
 obtain⟨hneed,h0,h1⟩:=hneed;have hc:=fun n=>u8k h0 h1 n
 have h45:(UInt8.ofNat k.toNat=45)=(k=45):=hc 45 (by decide)
 have h32:(UInt8.ofNat k.toNat=32)=(k=32):=hc 32 (by decide)
 have h9:(UInt8.ofNat k.toNat=9)=(k=9):=hc 9 (by decide)
 have h13:(UInt8.ofNat k.toNat=13)=(k=13):=hc 13 (by decide)
 clear hc;generalize UInt8.ofNat k.toNat=c at *;unfold vM at hneed;simp only at hneed;generalize hr:wS ⟨m,hd,bs,p,none,fs,pa,sk,co,out⟩ c=r;unfold wS at hr;simp only [h45,h32,h9,h13] at hr
 refine spcG zh mixed Tryz.func290 (by kernel_rfl) { cfgF with keep:=some [0,1,4]} [uf,vZ,uZ,uY,tC,tu] (by kernel_rfl) ?_
 intro I X hI hX
 refine orcL ?_;go_invoke;refine orcS (by kernel_rfl) ?_
 simp only [zq,Nat.reduceAdd];subst hI;simp only [nrmA,nrmB,nrlB,reduceCtorEq,HO.abs.injEq,Gh.fm.injEq]
 (repeat' (first|refine ja ?_ ?_|intro _))<;>first|omega|exact jb|exact jc ‹False›|skip
 all_goals first
  |omega
  |(unfold vM;simp only;omega)
  |(subst hr;simp [*,xM,evE,hd0,prt0];done)
def qK (I:Alg) (args:List D) (hp:List HO):Option CT:=match args,hp with
 |[.v (.one (.ptr 0 0)),.v (.one (.p (.int .u8 k)))],[.abs (.fm ⟨m,hd,bs,p,none,fs,pa,sk,co,out⟩)]=>(fun(m:Str) (hd:Int) (bs:List Int) (p:Int) (fs:List Fld) (pa sk co:Int) (out:List Evt) (k:Int)=>(some (.one ⟨I.hid (vM ⟨m,hd,bs,p,none,fs,pa,sk,co,out⟩∧0≤k∧k≤255),(.ret (.tup [])),[.abs (.fm (I.hid ((wS ⟨m,hd,bs,p,none,fs,pa,sk,co,out⟩ (UInt8.ofNat k.toNat)))))]⟩):Option CT)) m hd bs p fs pa sk co out k
 |_,_=>none
theorem SE:zx Tryz.prog 290 (qK alg):=by
 intro args hp r h;unfold qK at h
 split at h
 · cases h;exact fun hn=>zda _ _ _ _ _ _ _ _ _ _ hn
 · cases h
def zg2:Know Tryz.prog:=⟨290,qK,SE⟩
def zg1:Know Tryz.prog:=⟨290,fun I=>zy I (qK I),zf SE⟩
theorem zmK (m:Str) (hd:Int) (bs:List Int) (p:Int) (ln:Ln) (fs:List Fld) (pa sk co:Int) (out:List Evt) (k:Int) (hneed:vM ⟨m,hd,bs,p,some ln,fs,pa,sk,co,out⟩∧0≤k∧k≤255):Spc Tryz.prog 290 [.v (.one (.ptr 0 0)),.v (.one (.p (.int .u8 k)))] [.abs (.fm ⟨m,hd,bs,p,some ln,fs,pa,sk,co,out⟩)] (.ret (.tup [])) [.abs (.fm ((wS ⟨m,hd,bs,p,some ln,fs,pa,sk,co,out⟩ (UInt8.ofNat k.toNat))))]:=by
 obtain⟨hneed,h0,h1⟩:=hneed;have hc:=fun n=>u8k h0 h1 n
 have h45:(UInt8.ofNat k.toNat=45)=(k=45):=hc 45 (by decide)
 have h32:(UInt8.ofNat k.toNat=32)=(k=32):=hc 32 (by decide)
 have h9:(UInt8.ofNat k.toNat=9)=(k=9):=hc 9 (by decide)
 have h13:(UInt8.ofNat k.toNat=13)=(k=13):=hc 13 (by decide)
 clear hc;generalize UInt8.ofNat k.toNat=c at *;unfold vM at hneed;simp only at hneed;generalize hr:wS ⟨m,hd,bs,p,some ln,fs,pa,sk,co,out⟩ c=r;unfold wS at hr;simp only [h45,h32,h9,h13] at hr
 refine spcG zh mixed Tryz.func290 (by kernel_rfl) { cfgF with keep:=some [0,1,4]} [uf,vZ,uZ,uY,tC,tu,zg2,zg1] (by kernel_rfl) ?_
 intro I X hI hX
 refine orcL ?_;go_invoke;refine orcS (by kernel_rfl) ?_
 simp only [zq,Nat.reduceAdd];subst hI;simp only [nrmA,nrmB,nrlB,reduceCtorEq,HO.abs.injEq,Gh.fm.injEq]
 (repeat' (first|refine ja ?_ ?_|intro _))<;>first|omega|exact jb|exact jc ‹False›|skip
 all_goals first
  |omega
  |(unfold vM;simp only;omega)
  |(subst hr;simp [*,xM,evE,hd0,prt0];done)
def ZJ (I:Alg) (args:List D) (hp:List HO):Option CT:=match args,hp with
 |[.v (.one (.ptr 0 0)),.v (.one (.p (.int .u8 k)))],[.abs (.fm f)]=>(fun(f:Fm) (k:Int)=>(some (.one ⟨I.hid (vM f∧0≤k∧k≤255),(.ret (.tup [])),[.abs (.fm (I.hid ((wS f (UInt8.ofNat k.toNat)))))]⟩):Option CT)) f k
 |_,_=>none
theorem zbu:zx Tryz.prog 290 (ZJ alg):=by
 intro args hp r h;unfold ZJ at h;split at h<;>cases h
 rename_i k f;simp only [CT.Good,zi];intro hneed;obtain⟨m,hd,bs,p,ln,fs,pa,sk,co,out⟩:=f
 cases ln with
 |none=>exact zda m hd bs p fs pa sk co out k hneed
 |some ln=>exact zmK m hd bs p ln fs pa sk co out k hneed
def zbt:Know Tryz.prog:=⟨290,ZJ,zbu⟩
def zbs:Know Tryz.prog:=⟨290,fun I=>zy I (ZJ I),zf zbu⟩
structure FmS (f:Fm):Prop where
 bs:f.bs=Rk f.mark
 ml:f.mark.length≤1000000
 h0:0≤f.held
 h1:f.mark=[]∨f.held<f.mark.length
 s0:0≤f.skip∧f.skip≤2
theorem zg0 (m:Str) (hd:Int) (bs:List Int) (p:Int) (fs:List Fld) (pa sk co:Int) (out:List Evt) (k:Int) (hneed:fm9 ⟨m,hd,bs,p,none,fs,pa,sk,co,out⟩∧FmS ⟨m,hd,bs,p,none,fs,pa,sk,co,out⟩∧0≤k∧k≤255):Spc Tryz.prog 289 [.v (.one (.ptr 0 0)),.v (.one (.p (.int .u8 k)))] [.abs (.fm ⟨m,hd,bs,p,none,fs,pa,sk,co,out⟩)] (.ret (.tup [])) [.abs (.fm ((ug ⟨m,hd,bs,p,none,fs,pa,sk,co,out⟩ (UInt8.ofNat k.toNat))))]:=by
 obtain⟨hneed,⟨hbs,hml,hh0,hh1,hs0⟩,h0,h1⟩:=hneed;unfold fm9 at hneed;simp only at hneed hbs hml hh0 hh1 hs0;generalize hr:ug ⟨m,hd,bs,p,none,fs,pa,sk,co,out⟩ (UInt8.ofNat k.toNat)=r;unfold ug tK fmSk at hr;simp only [Int.min_def] at hr
 refine spcG zh mixed Tryz.func289 (by kernel_rfl) { cfgF with fz:=[296],keep:=some [0,1,4,5,6]} [Tz,Tv,uf,vZ,uZ,uY] (by kernel_rfl) ?_
 intro I X hI hX
 refine orcL ?_;go_invoke;refine orcS (by kernel_rfl) ?_
 simp only [zq,Nat.reduceAdd];generalize rY m hd.toNat (UInt8.ofNat k.toNat)=q at *;obtain⟨o,n2,fd⟩:=q;subst hI;simp only [nrmA,nrmB,nrlB,reduceCtorEq,HO.abs.injEq,Gh.fm.injEq];simp only at hr
 have hn:0≤(if sk≤(o.length:Int) then sk else(o.length:Int))∧(if sk≤(o.length:Int) then sk else(o.length:Int))≤o.length∧(if sk≤(o.length:Int) then sk else(o.length:Int))≤sk:=by split<;>omega
 generalize(if sk≤(o.length:Int) then sk else(o.length:Int))=n at *
 rw [jq (show(o.drop n.toNat).length≤o.length - n.toNat by rw [jC];exact jL _)]
 have hne:0<(o.length:Int) - n→¬ o.drop n.toNat=[]:=fun h k=>by have:=congrArg List.length k;rw [jC,ji] at this;omega
 have hnn: ¬ 0<(o.length:Int) - n→o.drop n.toNat=[]:=fun h=>jF (by omega)
 generalize o.drop n.toNat=D at *
 (repeat' (first|refine ja ?_ ?_|intro _))<;>first|omega|exact jb|exact jc ‹False›|skip
 all_goals first
  |omega
  |with_reducible assumption
  |(unfold vM;simp only [jk,jr];omega)
  |(have hne:=hne (by omega);clear hnn;subst hr;simp [*,evB,evO,hd0,prt0];done)
  |(have hnn:=hnn (by omega);clear hne;subst hr;simp [*,evB,evO,hd0,prt0];done)
  |(clear hne hnn;subst hr;simp [*,evB,evO,hd0,prt0];done)
def ZI (I:Alg) (args:List D) (hp:List HO):Option CT:=match args,hp with
 |[.v (.one (.ptr 0 0)),.v (.one (.p (.int .u8 k)))],[.abs (.fm ⟨m,hd,bs,p,none,fs,pa,sk,co,out⟩)]=>(fun(m:Str) (hd:Int) (bs:List Int) (p:Int) (fs:List Fld) (pa sk co:Int) (out:List Evt) (k:Int)=>(some (.one ⟨I.hid (fm9 ⟨m,hd,bs,p,none,fs,pa,sk,co,out⟩∧FmS ⟨m,hd,bs,p,none,fs,pa,sk,co,out⟩∧0≤k∧k≤255),(.ret (.tup [])),[.abs (.fm (I.hid ((ug ⟨m,hd,bs,p,none,fs,pa,sk,co,out⟩ (UInt8.ofNat k.toNat)))))]⟩):Option CT)) m hd bs p fs pa sk co out k
 |_,_=>none
theorem zbr:zx Tryz.prog 289 (ZI alg):=by
 intro args hp r h;unfold ZI at h
 split at h
 · cases h;exact fun hn=>zg0 _ _ _ _ _ _ _ _ _ _ hn
 · cases h
def ziz:Know Tryz.prog:=⟨289,ZI,zbr⟩
def ziy:Know Tryz.prog:=⟨289,fun I=>zy I (ZI I),zf zbr⟩
theorem zpM (m:Str) (hd:Int) (bs:List Int) (p:Int) (ln:Ln) (fs:List Fld) (pa sk co:Int) (out:List Evt) (k:Int) (hneed:fm9 ⟨m,hd,bs,p,some ln,fs,pa,sk,co,out⟩∧FmS ⟨m,hd,bs,p,some ln,fs,pa,sk,co,out⟩∧0≤k∧k≤255):Spc Tryz.prog 289 [.v (.one (.ptr 0 0)),.v (.one (.p (.int .u8 k)))] [.abs (.fm ⟨m,hd,bs,p,some ln,fs,pa,sk,co,out⟩)] (.ret (.tup [])) [.abs (.fm ((ug ⟨m,hd,bs,p,some ln,fs,pa,sk,co,out⟩ (UInt8.ofNat k.toNat))))]:=by
 obtain⟨hneed,⟨hbs,hml,hh0,hh1,hs0⟩,h0,h1⟩:=hneed;unfold fm9 at hneed;simp only at hneed hbs hml hh0 hh1 hs0;generalize hr:ug ⟨m,hd,bs,p,some ln,fs,pa,sk,co,out⟩ (UInt8.ofNat k.toNat)=r;unfold ug tK fmSk at hr;simp only [Int.min_def] at hr
 refine spcG zh mixed Tryz.func289 (by kernel_rfl) { cfgF with fz:=[296],keep:=some [0,1,4,5,6]} [Tz,Tv,uf,vZ,uZ,uY,ziz,ziy] (by kernel_rfl) ?_
 intro I X hI hX
 refine orcL ?_;go_invoke;refine orcS (by kernel_rfl) ?_
 simp only [zq,Nat.reduceAdd];generalize rY m hd.toNat (UInt8.ofNat k.toNat)=q at *;obtain⟨o,n2,fd⟩:=q;subst hI;simp only [nrmA,nrmB,nrlB,reduceCtorEq,HO.abs.injEq,Gh.fm.injEq];simp only at hr
 have hn:0≤(if sk≤(o.length:Int) then sk else(o.length:Int))∧(if sk≤(o.length:Int) then sk else(o.length:Int))≤o.length∧(if sk≤(o.length:Int) then sk else(o.length:Int))≤sk:=by split<;>omega
 generalize(if sk≤(o.length:Int) then sk else(o.length:Int))=n at *
 rw [jq (show(o.drop n.toNat).length≤o.length - n.toNat by rw [jC];exact jL _)]
 have hne:0<(o.length:Int) - n→¬ o.drop n.toNat=[]:=fun h k=>by have:=congrArg List.length k;rw [jC,ji] at this;omega
 have hnn: ¬ 0<(o.length:Int) - n→o.drop n.toNat=[]:=fun h=>jF (by omega)
 generalize o.drop n.toNat=D at *
 (repeat' (first|refine ja ?_ ?_|intro _))<;>first|omega|exact jb|exact jc ‹False›|skip
 all_goals first
  |omega
  |with_reducible assumption
  |(unfold vM;simp only [jk,jr];omega)
  |(have hne:=hne (by omega);clear hnn;subst hr;simp [*,evB,evO,hd0,prt0];done)
  |(have hnn:=hnn (by omega);clear hne;subst hr;simp [*,evB,evO,hd0,prt0];done)
  |(clear hne hnn;subst hr;simp [*,evB,evO,hd0,prt0];done)
def Xx (I:Alg) (args:List D) (hp:List HO):Option CT:=match args,hp with
 |[.v (.one (.ptr 0 0)),.v (.one (.p (.int .u8 k)))],[.abs (.fm f)]=>(fun(f:Fm) (k:Int)=>(some (.one ⟨I.hid (fm9 f∧FmS f∧0≤k∧k≤255),(.ret (.tup [])),[.abs (.fm (I.hid ((ug f (UInt8.ofNat k.toNat)))))]⟩):Option CT)) f k
 |_,_=>none
theorem zc9:zx Tryz.prog 289 (Xx alg):=by
 intro args hp r h;unfold Xx at h;split at h<;>cases h
 rename_i k f;simp only [CT.Good,zi];intro hneed;obtain⟨m,hd,bs,p,ln,fs,pa,sk,co,out⟩:=f
 cases ln with
 |none=>exact zg0 m hd bs p fs pa sk co out k hneed
 |some ln=>exact zpM m hd bs p ln fs pa sk co out k hneed
def zc8:Know Tryz.prog:=⟨289,Xx,zc9⟩
def zc7:Know Tryz.prog:=⟨289,fun I=>zy I (Xx I),zf zc9⟩
end Go.Proofs.YtkjepecoodjbmaaGreatDoor
namespace Go.Proofs.YtkjepecoodjbmaaGreatDoor
open Go Go.Sep Go.Ab
set_option maxRecDepth 100000
theorem zsH (m:Str) (n:Nat) (c:UInt8):m=[]∨(rY m n c).2.1<m.length:=by
 unfold rY
 by_cases h:m=[]
 · exact .inl h
 · rw [if_neg h]
   have h0:0<m.length:=by cases m<;>simp_all
   unfold P.feed;simp only
   repeat' split
   all_goals first|exact .inr h0|(right;assumption)
theorem Uf (m:Str) (n:Nat) (c:UInt8):m=[]∨(((rY m n c).2.1:Nat):Int)<m.length:=(zsH m n c).imp id fun h=>by omega
theorem zh6 (l:List Fld):(Zy l).1.bytes=[]:=by
 unfold Zy zrY
 repeat' split
 all_goals rfl
def FdOk (f:List Fld):Prop:=f.length≤1000∧∀ x ∈ f,x.name.length≤1000000∧x.value.length≤1000000
structure FmB (f:Fm):Prop where
 few:f.out.length≤9000000
 sk:FmS f
 fd:FdOk f.fields
 p0:0≤f.parts∧f.parts≤12
theorem zpP (m:Str) (hd:Int) (bs:List Int) (p:Int) (fs:List Fld) (pa sk co:Int) (out:List Evt) (hneed:FmB ⟨m,hd,bs,p,none,fs,pa,sk,co,out⟩):Spc Tryz.prog 297 [.v (.one (.ptr 0 0))] [.abs (.fm ⟨m,hd,bs,p,none,fs,pa,sk,co,out⟩)] (.ret (.tup [])) [.abs (.fm ((wZ ⟨m,hd,bs,p,none,fs,pa,sk,co,out⟩)))]:=by
 obtain⟨h9,⟨hbs,hml,hh0,hh1,hs0⟩,⟨hfl,hff⟩,hp0⟩:=hneed;simp only at h9 hbs hml hh0 hh1 hs0 hfl hff hp0;generalize hr:wZ ⟨m,hd,bs,p,none,fs,pa,sk,co,out⟩=r;have hb:=zh6 fs;unfold wZ at hr;simp only [xM,fmSk,evP,evF,jJ] at hr
 refine spcG zh mixed Tryz.func297 (by kernel_rfl) { cfgF with keep:=some [0,2,3]} [Tz,Tv,zk9,zk8,uf,vZ,uZ,uY,tC,tu] (by kernel_rfl) ?_
 intro I X hI hX
 refine orcL ?_;go_invoke;refine orcS (by kernel_rfl) ?_
 simp only [zq,Nat.reduceAdd];have hl1:=Uf m hd.toNat 13;generalize Zy fs=P at *;obtain⟨⟨a,b,c,d⟩,e⟩:=P;simp only at hb hr;subst hb;subst hI;simp only [nrmA,nrmB,nrlB,reduceCtorEq,HO.abs.injEq,Gh.fm.injEq]
 (repeat' (first|refine ja ?_ ?_|intro _))<;>first|omega|exact jb|exact jc ‹False›|skip
 all_goals first
  |omega
  |with_reducible assumption
  |exact(hff _ ‹_›).1
  |exact(hff _ ‹_›).2
  |(unfold vM;simp only [jk,jr];omega)
  |exact hl1
  |(subst hr;simp [*,evF,hd0,prt0,xM];done)
theorem zpO (m:Str) (hd:Int) (bs:List Int) (p:Int) (ln:Ln) (fs:List Fld) (pa sk co:Int) (out:List Evt) (hneed:FmB ⟨m,hd,bs,p,some ln,fs,pa,sk,co,out⟩):Spc Tryz.prog 297 [.v (.one (.ptr 0 0))] [.abs (.fm ⟨m,hd,bs,p,some ln,fs,pa,sk,co,out⟩)] (.ret (.tup [])) [.abs (.fm ((wZ ⟨m,hd,bs,p,some ln,fs,pa,sk,co,out⟩)))]:=by
 obtain⟨h9,⟨hbs,hml,hh0,hh1,hs0⟩,⟨hfl,hff⟩,hp0⟩:=hneed;simp only at h9 hbs hml hh0 hh1 hs0 hfl hff hp0;generalize hr:wZ ⟨m,hd,bs,p,some ln,fs,pa,sk,co,out⟩=r;have hb:=zh6 fs;unfold wZ at hr;simp only [xM,fmSk,evP,evF,jJ] at hr
 refine spcG zh mixed Tryz.func297 (by kernel_rfl) { cfgF with keep:=some [0,2,3]} [Tz,Tv,zk9,zk8,uf,vZ,uZ,uY,tC,tu] (by kernel_rfl) ?_
 intro I X hI hX
 refine orcL ?_;go_invoke;refine orcS (by kernel_rfl) ?_
 simp only [zq,Nat.reduceAdd];have hl1:=Uf m hd.toNat 13;generalize Zy fs=P at *;obtain⟨⟨a,b,c,d⟩,e⟩:=P;simp only at hb hr;subst hb;subst hI;simp only [nrmA,nrmB,nrlB,reduceCtorEq,HO.abs.injEq,Gh.fm.injEq]
 (repeat' (first|refine ja ?_ ?_|intro _))<;>first|omega|exact jb|exact jc ‹False›|skip
 all_goals first
  |omega
  |with_reducible assumption
  |exact(hff _ ‹_›).1
  |exact(hff _ ‹_›).2
  |(unfold vM;simp only [jk,jr];omega)
  |exact hl1
  |(subst hr;simp [*,evF,hd0,prt0,xM];done)
def Xy (I:Alg) (args:List D) (hp:List HO):Option CT:=match args,hp with
 |[.v (.one (.ptr 0 0))],[.abs (.fm f)]=>(fun(f:Fm)=>(some (.one ⟨I.hid (FmB f),(.ret (.tup [])),[.abs (.fm (I.hid ((wZ f))))]⟩):Option CT)) f
 |_,_=>none
theorem zdd:zx Tryz.prog 297 (Xy alg):=by
 intro args hp r h;unfold Xy at h;split at h<;>cases h
 rename_i f;simp only [CT.Good,zi];intro hneed;obtain⟨m,hd,bs,p,ln,fs,pa,sk,co,out⟩:=f
 cases ln with
 |none=>exact zpP m hd bs p fs pa sk co out hneed
 |some ln=>exact zpO m hd bs p ln fs pa sk co out hneed
def zdc:Know Tryz.prog:=⟨297,Xy,zdd⟩
def zdb:Know Tryz.prog:=⟨297,fun I=>zy I (Xy I),zf zdd⟩
theorem zsw (m:Str) (hd:Int) (bs:List Int) (p:Int) (fs:List Fld) (pa sk co:Int) (out:List Evt) (s:Str) (hneed:FmB ⟨m,hd,bs,p,none,fs,pa,sk,co,out⟩∧s.length≤1000000):Spc Tryz.prog 292 [.v (.one (.ptr 0 0)),.v (.one (.p (.str s)))] [.abs (.fm ⟨m,hd,bs,p,none,fs,pa,sk,co,out⟩)] (.ret (.tup [])) [.abs (.fm ((tq ⟨m,hd,bs,p,none,fs,pa,sk,co,out⟩ s)))]:=by
 obtain⟨⟨h9,hS,⟨hfl,hff⟩,hp0⟩,hs⟩:=hneed;simp only at h9 hfl hff hp0;generalize hr:tq ⟨m,hd,bs,p,none,fs,pa,sk,co,out⟩ s=r;unfold tq at hr;simp only at hr
 refine spcG zh mixed Tryz.func292 (by kernel_rfl) { cfgF with keep:=some [0,1,4,5]} [Vo,Vm,tC,tu,zdc,zdb] (by kernel_rfl) ?_
 intro I X hI hX
 refine orcL ?_;go_invoke;refine orcS (by kernel_rfl) ?_
 simp only [zq,Nat.reduceAdd];generalize uP s=y at *;obtain⟨⟨a,b⟩,e⟩:=y;subst hI;simp only [nrmA,nrmB,nrlB,reduceCtorEq,HO.abs.injEq,Gh.fm.injEq]
 (repeat' (first|refine ja ?_ ?_|intro _))<;>first|omega|exact jb|exact jc ‹False›|skip
 all_goals first
  |omega
  |with_reducible assumption
  |exact⟨h9,hS,⟨hfl,hff⟩,hp0⟩
  |(unfold vM;simp only;omega)
  |(simp only [jr];omega)
  |(subst hr;simp [*,xM];done)
  |(subst hr;rw [if_pos ‹s=[]›];done)
  |(subst hr;rw [if_neg ‹¬ s=[]›,if_pos (by omega)];done)
  |(subst hr;rw [if_neg ‹¬ s=[]›,if_neg (by omega),if_pos ‹¬ e=0›];done)
  |(subst hr;rw [if_neg ‹¬ s=[]›,if_neg (by omega),if_neg (fun h=>h ‹e=0›)];done)
theorem zsv (m:Str) (hd:Int) (bs:List Int) (p:Int) (ln:Ln) (fs:List Fld) (pa sk co:Int) (out:List Evt) (s:Str) (hneed:FmB ⟨m,hd,bs,p,some ln,fs,pa,sk,co,out⟩∧s.length≤1000000):Spc Tryz.prog 292 [.v (.one (.ptr 0 0)),.v (.one (.p (.str s)))] [.abs (.fm ⟨m,hd,bs,p,some ln,fs,pa,sk,co,out⟩)] (.ret (.tup [])) [.abs (.fm ((tq ⟨m,hd,bs,p,some ln,fs,pa,sk,co,out⟩ s)))]:=by
 obtain⟨⟨h9,hS,⟨hfl,hff⟩,hp0⟩,hs⟩:=hneed;simp only at h9 hfl hff hp0;generalize hr:tq ⟨m,hd,bs,p,some ln,fs,pa,sk,co,out⟩ s=r;unfold tq at hr;simp only at hr
 refine spcG zh mixed Tryz.func292 (by kernel_rfl) { cfgF with keep:=some [0,1,4,5]} [Vo,Vm,tC,tu,zdc,zdb] (by kernel_rfl) ?_
 intro I X hI hX
 refine orcL ?_;go_invoke;refine orcS (by kernel_rfl) ?_
 simp only [zq,Nat.reduceAdd];generalize uP s=y at *;obtain⟨⟨a,b⟩,e⟩:=y;subst hI;simp only [nrmA,nrmB,nrlB,reduceCtorEq,HO.abs.injEq,Gh.fm.injEq]
 (repeat' (first|refine ja ?_ ?_|intro _))<;>first|omega|exact jb|exact jc ‹False›|skip
 all_goals first
  |omega
  |with_reducible assumption
  |exact⟨h9,hS,⟨hfl,hff⟩,hp0⟩
  |(unfold vM;simp only;omega)
  |(simp only [jr];omega)
  |(subst hr;simp [*,xM];done)
  |(subst hr;rw [if_pos ‹s=[]›];done)
  |(subst hr;rw [if_neg ‹¬ s=[]›,if_pos (by omega)];done)
  |(subst hr;rw [if_neg ‹¬ s=[]›,if_neg (by omega),if_pos ‹¬ e=0›];done)
  |(subst hr;rw [if_neg ‹¬ s=[]›,if_neg (by omega),if_neg (fun h=>h ‹e=0›)];done)
def Ua (I:Alg) (args:List D) (hp:List HO):Option CT:=match args,hp with
 |[.v (.one (.ptr 0 0)),.v (.one (.p (.str s)))],[.abs (.fm f)]=>(fun(f:Fm) (s:Str)=>(some (.one ⟨I.hid (FmB f∧s.length≤1000000),(.ret (.tup [])),[.abs (.fm (I.hid ((tq f s))))]⟩):Option CT)) f s
 |_,_=>none
theorem zgW:zx Tryz.prog 292 (Ua alg):=by
 intro args hp r h;unfold Ua at h;split at h<;>cases h
 rename_i s f;simp only [CT.Good,zi];intro hneed;obtain⟨m,hd,bs,p,ln,fs,pa,sk,co,out⟩:=f
 cases ln with
 |none=>exact zsw m hd bs p fs pa sk co out s hneed
 |some ln=>exact zsv m hd bs p ln fs pa sk co out s hneed
def zgV:Know Tryz.prog:=⟨292,Ua,zgW⟩
def zgU:Know Tryz.prog:=⟨292,fun I=>zy I (Ua I),zf zgW⟩
end Go.Proofs.YtkjepecoodjbmaaGreatDoor
namespace Go.Proofs.YtkjepecoodjbmaaGreatDoor
open Go Go.Sep Go.Ab
set_option maxRecDepth 100000
theorem zfN (s:Str):(uP s).1.name.length≤s.length∧(uP s).1.value.length≤s.length:=by
 have h:=zeL s 58;have ht:=zjh (cutB s 58).2.1 [32,9];unfold uP
 repeat' split
 all_goals simp only [ji]
 all_goals omega
end Go.Proofs.YtkjepecoodjbmaaGreatDoor
namespace Go.Proofs.YtkjepecoodjbmaaGreatDoor
open Go Go.Sep Go.Ab
set_option maxRecDepth 100000
structure FmI (f:Fm) (i:Nat):Prop where
 bs:f.bs=Rk f.mark
 ml:f.mark.length≤1000
 h0:0≤f.held
 h1:f.held<f.mark.length
 s0:0≤f.skip∧f.skip≤2
 p0:0≤f.parts∧f.parts≤12
 fl:f.fields.length≤16
 ff: ∀ x ∈ f.fields,x.name.length≤i∧x.value.length≤i
 lb: ∀ l,f.ln=some l→l.b.length≤i
 p5:f.pos=5→f.ln≠none
 on:f.out.length≤4 * i
theorem zc3 {f:Fm} {i:Nat} (h:FmI f i) (c:UInt8):FmI (fmSk f c) i:=by
 have hl:=(Uf f.mark f.held.toNat c).resolve_left fun e=>by have h1:=h.h1;have h0:=h.h0;rw [e,ji] at h1;omega
 exact⟨h.bs,h.ml,Int.natCast_nonneg _,hl,h.s0,h.p0,h.fl,h.ff,h.lb,h.p5,h.on⟩
theorem zkX {f:Fm} {i j:Nat} (h:FmI f i) (k:i≤j):FmI f j:=by
 obtain⟨a,b,c,d,e,f1,g,h1,h2,h3,h4⟩:=h
 exact⟨a,b,c,d,e,f1,g,fun x m=>by have:=h1 x m;omega,fun l e=>by have:=h2 l e;omega,h3,by omega⟩
theorem YD {f:Fm} {i:Nat} (h:FmI f i) {p co sk pa:Int} {o:List Evt} (ho:o.length≤4 * i) (hp:p=5→f.ln≠none) (hs:0≤sk∧sk≤2) (hpa:0≤pa∧pa≤12):FmI { f with pos:=p,code:=co,out:=o,skip:=sk,parts:=pa} i:=
 ⟨h.bs,h.ml,h.h0,h.h1,hs,hpa,h.fl,h.ff,h.lb,hp,ho⟩
theorem ZH {f:Fm} {i:Nat} (h:FmI f i) (ho:f.out.length+1≤4 * i) (c:Int):FmI (xM f c) i:=
 YD h (by simp only [jk,jr];omega) (fun h=>absurd h (by decide)) h.s0 h.p0
theorem zmL {f:Fm} {i:Nat} (h:FmI f i) (ho:f.out.length+1≤4 * i) (c:UInt8):FmI (wS f c) i:=by
 unfold wS
 repeat' split
 · exact YD h h.on (fun h=>absurd h (by decide)) h.s0 h.p0
 · exact YD h (by simp only [jk,jr];omega) (fun h=>absurd h (by decide)) h.s0 h.p0
 · exact YD h h.on (fun h=>absurd h (by decide)) h.s0 h.p0
 · exact YD h h.on (fun h=>absurd h (by decide)) h.s0 h.p0
 · exact ZH h ho 5
theorem zpN {f:Fm} {i:Nat} (h:FmI f i) (ho:f.out.length+2≤4 * i) (c:UInt8):FmI (ug f c) i:=by
 have hs:=zc3 h c;have h2:=h.s0;unfold ug
 split
 · refine YD (f:=fmSk f c) hs ?_ h.p5 ?_ h.p0
   · split
     · simp only [jk,jr];omega
     · exact h.on
   · rw [Int.min_def]
     split<;>omega
 · refine YD (f:=fmSk f c) hs ?_ (fun h=>absurd h (by decide)) (by decide) h.p0
   repeat' split
   all_goals first|exact h.on|(simp only [jk,jr,jh,ji];omega)
theorem zpQ {f:Fm} {i:Nat} (h:FmI f i) (ho:f.out.length+1≤4 * i):FmI (wZ f) i:=by
 have h2:=h.p0;unfold wZ
 split
 · exact ZH h ho _
 · split
   · exact ZH h ho _
   · refine zc3 (zc3 ?_ _) _
     exact YD h (by simp only [jk,jr];omega) (fun h=>absurd h (by decide)) (by decide) (by omega)
theorem zsx {f:Fm} {i:Nat} (h:FmI f i) (ho:f.out.length+1≤4 * i) {s:Str} (hs:s.length≤i):FmI (tq f s) i:=by
 unfold tq
 split
 · exact zpQ h ho
 · split
   · exact ZH h ho _
   · split
     · exact ZH h ho _
     · rename_i h16 _
       have hp:=zfN s;refine⟨h.bs,h.ml,h.h0,h.h1,h.s0,h.p0,?_,fun x hx=> ?_,h.lb,h.p5,h.on⟩
       · have:=h.fl
         simp only [jk,jr];omega
       · rcases List.mem_append.1 hx with h5|h5
         · exact h.ff x h5
         · rw [List.mem_singleton.1 h5];omega
theorem zsC {f:Fm} {i:Nat} (h:FmI f i) (c:UInt8):FmI (fmF f c) (i+1):=by
 have hm:=zkX h (show i≤i+1 by omega)
 have ho:f.out.length+2≤4 * (i+1):=by have:=h.on;omega
 unfold fmF
 split
 · exact zpN hm ho c
 · split
   · exact zmL hm (by omega) c
   · split
     · split
       · exact ZH hm (by omega) 2
       · exact⟨hm.bs,hm.ml,hm.h0,hm.h1,hm.s0,hm.p0,by simp,(fun x hx=>by cases hx),(fun l e=>by cases e;simp [ln0]),(fun _ e=>by cases e),hm.on⟩
     · split
       · have hb:=zsa (lnOf f) c
         have hl:=Yt (lnOf f) c
         have hn:(lnOf f).b.length≤i:=by
          unfold lnOf
          cases e:f.ln with
          |none=>simp [ln0]
          |some l=>exact h.lb l e
         have hk:FmI { f with ln:=some (lnF (lnOf f) c).1} (i+1):=⟨hm.bs,hm.ml,hm.h0,hm.h1,hm.s0,hm.p0,hm.fl,hm.ff,(fun l e=>by cases e;omega),(fun _ e=>by cases e),hm.on⟩
         split
         · exact ZH hk (by simp only;omega) _
         · split
           · exact zsx hk (by simp only;omega) (by omega)
           · exact hk
       · exact hm
theorem zr9 (k:Int) (hneed:False):Spc Tryz.prog 121 [.v (.one (.p (.val (.pointer none)))),.v (.one (.p (.int .u8 k)))] [] (.ret (.tup [(.one (.p (.str ([])))),(.one (.p (.bool false))),(.one (.p (.int .i64 0)))])) []:=hneed.elim
def Xd (I:Alg) (args:List D) (hp:List HO):Option CT:=match args,hp with
 |[.v (.one (.p (.val (.pointer none)))),.v (.one (.p (.int .u8 k)))],[]=>(fun(k:Int)=>(some (.one ⟨I.hid (False),(.ret (.tup [(.one (.p (.str (I.hid ([]))))),(.one (.p (.bool false))),(.one (.p (.int .i64 0)))])),[]⟩):Option CT)) k
 |_,_=>none
theorem zcF:zx Tryz.prog 121 (Xd alg):=by
 intro args hp r h;unfold Xd at h
 split at h
 · cases h;exact fun hn=>zr9 _ hn
 · cases h
def zcE:Know Tryz.prog:=⟨121,Xd,zcF⟩
def zcD:Know Tryz.prog:=⟨121,fun I=>zy I (Xd I),zf zcF⟩
def fmN (f:Fm):Prop:=∃ i:Nat,i≤1000000∧FmI f i
theorem zvc (m:Str) (hd:Int) (bs:List Int) (p:Int) (fs:List Fld) (pa sk co:Int) (out:List Evt) (k:Int) (hneed:fmN ⟨m,hd,bs,p,none,fs,pa,sk,co,out⟩∧0≤k∧k≤255):Spc Tryz.prog 277 [.v (.one (.ptr 0 0)),.v (.one (.p (.int .u8 k)))] [.abs (.fm ⟨m,hd,bs,p,none,fs,pa,sk,co,out⟩)] (.ret (.tup [])) [.abs (.fm ((fmF ⟨m,hd,bs,p,none,fs,pa,sk,co,out⟩ (UInt8.ofNat k.toNat))))]:=by
 obtain⟨⟨i,hi,hI0⟩,hk0,hk1⟩:=hneed;obtain⟨g1,g2,g3,g4,g5,g6,g7,g8,g9,g10,g11⟩:=hI0;simp only at g1 g2 g3 g4 g5 g6 g7 g8 g9 g10 g11
 have g2:=Nat.le_trans g2 (show 1000≤1000000 by decide)
 have hfd:FdOk fs:=⟨by omega,fun x hx=>by have:=g8 x hx;omega⟩
 have h10:=u8k hk0 hk1 10 (by decide)
 have h10:(UInt8.ofNat k.toNat=10)=(k=10):=h10;generalize hr:fmF ⟨m,hd,bs,p,none,fs,pa,sk,co,out⟩ (UInt8.ofNat k.toNat)=r;unfold fmF lnOf at hr;simp only [h10] at hr;have hll:=trivial
 refine spcG zh mixed Tryz.func277 (by kernel_rfl) { cfgF with keep:=some [0,1,4,5,6,10,11,17]} [QC,QB,rP,rO,zcE,zcD,tC,tu,zbt,zbs,zc8,zc7,zgV,zgU] (by kernel_rfl) ?_
 intro I X hI hX
 refine orcL ?_;go_invoke;refine orcS (by kernel_rfl) ?_
 simp only [zq,Nat.reduceAdd];subst hI;simp only [nrmA,nrmB,nrlB,reduceCtorEq,HO.abs.injEq,Gh.fm.injEq]
 (repeat' (first|refine ja ?_ ?_|intro _))<;>first|omega|exact jb|exact jc ‹False›|skip
 all_goals first
  |omega
  |with_reducible assumption
  |(refine⟨by simp only;omega,⟨g1,g2,g3,.inr g4,g5⟩,?_⟩;done)
  |exact⟨g1,g2,g3,.inr g4,g5⟩
  |exact⟨by simp only;omega,⟨g1,g2,g3,.inr g4,g5⟩,hfd,g6⟩
  |exact Nat.le_trans hll (by omega)
  |(unfold vM;simp only;omega)
  |(unfold fm9;simp only;omega)
  |(exact absurd rfl (g10 ‹_›))
  |(subst hr;simp [*,ln0];done)
theorem zvb (m:Str) (hd:Int) (bs:List Int) (p:Int) (ln:Ln) (fs:List Fld) (pa sk co:Int) (out:List Evt) (k:Int) (hneed:fmN ⟨m,hd,bs,p,some ln,fs,pa,sk,co,out⟩∧0≤k∧k≤255):Spc Tryz.prog 277 [.v (.one (.ptr 0 0)),.v (.one (.p (.int .u8 k)))] [.abs (.fm ⟨m,hd,bs,p,some ln,fs,pa,sk,co,out⟩)] (.ret (.tup [])) [.abs (.fm ((fmF ⟨m,hd,bs,p,some ln,fs,pa,sk,co,out⟩ (UInt8.ofNat k.toNat))))]:=by
 obtain⟨⟨i,hi,hI0⟩,hk0,hk1⟩:=hneed;obtain⟨g1,g2,g3,g4,g5,g6,g7,g8,g9,g10,g11⟩:=hI0;simp only at g1 g2 g3 g4 g5 g6 g7 g8 g9 g10 g11
 have g2:=Nat.le_trans g2 (show 1000≤1000000 by decide)
 have hfd:FdOk fs:=⟨by omega,fun x hx=>by have:=g8 x hx;omega⟩
 have h10:=u8k hk0 hk1 10 (by decide)
 have h10:(UInt8.ofNat k.toNat=10)=(k=10):=h10;generalize hr:fmF ⟨m,hd,bs,p,some ln,fs,pa,sk,co,out⟩ (UInt8.ofNat k.toNat)=r;unfold fmF lnOf at hr;simp only [h10] at hr;have hll:=Yt ln (UInt8.ofNat k.toNat);have hlb:=g9 ln rfl
 refine spcG zh mixed Tryz.func277 (by kernel_rfl) { cfgF with keep:=some [0,1,4,5,6,10,11,17]} [QC,QB,rP,rO,zcE,zcD,tC,tu,zbt,zbs,zc8,zc7,zgV,zgU] (by kernel_rfl) ?_
 intro I X hI hX
 refine orcL ?_;go_invoke;refine orcS (by kernel_rfl) ?_
 simp only [zq,Nat.reduceAdd];subst hI;simp only [nrmA,nrmB,nrlB,reduceCtorEq,HO.abs.injEq,Gh.fm.injEq]
 (repeat' (first|refine ja ?_ ?_|intro _))<;>first|omega|exact jb|exact jc ‹False›|skip
 all_goals first
  |omega
  |with_reducible assumption
  |(refine⟨by simp only;omega,⟨g1,g2,g3,.inr g4,g5⟩,?_⟩;done)
  |exact⟨g1,g2,g3,.inr g4,g5⟩
  |exact⟨by simp only;omega,⟨g1,g2,g3,.inr g4,g5⟩,hfd,g6⟩
  |exact Nat.le_trans hll (by omega)
  |(unfold vM;simp only;omega)
  |(unfold fm9;simp only;omega)
  |(exact absurd rfl (g10 ‹_›))
  |(subst hr;simp [*,ln0];done)
def QS (I:Alg) (args:List D) (hp:List HO):Option CT:=match args,hp with
 |[.v (.one (.ptr 0 0)),.v (.one (.p (.int .u8 k)))],[.abs (.fm f)]=>(fun(f:Fm) (k:Int)=>(some (.one ⟨I.hid (fmN f∧0≤k∧k≤255),(.ret (.tup [])),[.abs (.fm (I.hid ((fmF f (UInt8.ofNat k.toNat)))))]⟩):Option CT)) f k
 |_,_=>none
theorem zkZ:zx Tryz.prog 277 (QS alg):=by
 intro args hp r h;unfold QS at h;split at h<;>cases h
 rename_i k f;simp only [CT.Good,zi];intro hneed;obtain⟨m,hd,bs,p,ln,fs,pa,sk,co,out⟩:=f
 cases ln with
 |none=>exact zvc m hd bs p fs pa sk co out k hneed
 |some ln=>exact zvb m hd bs p ln fs pa sk co out k hneed
def QO:Know Tryz.prog:=⟨277,QS,zkZ⟩
def QN:Know Tryz.prog:=⟨277,fun I=>zy I (QS I),zf zkZ⟩
end Go.Proofs.YtkjepecoodjbmaaGreatDoor
namespace Go.Proofs.YtkjepecoodjbmaaGreatDoor
open Go Go.Sep Go.Ab
set_option maxRecDepth 100000
def zI (l:List Evt):Nat:=(l.map fun e=>e.bytes.length).sum
theorem yD (a b:List Evt):zI (a++b)=zI a+zI b:=by simp [zI]
theorem xG (e:Evt):zI [e]=e.bytes.length:=by simp [zI]
theorem zpb (o:List Evt) (e:Evt):zI (uS o e)≤zI o+e.bytes.length:=by
 rcases List.eq_nil_or_concat o with rfl|⟨z,x,rfl⟩
 · rw [Yv,xG];omega
 · rw [List.concat_eq_append,xU]
   split
   · rw [yD,yD,xG,xG];simp only [evB,jk];omega
   · rw [yD _ [e],xG e];exact jL _
theorem Xe (l:List Evt) (e:Evt):zZ (l++[e])=uS (zZ l) e:=by simp [zZ,List.foldl_append]
theorem za4 (l:List Evt):zI (zZ l)≤zI l:=by
 suffices ∀ l o:List Evt,zI (l.foldl uS o)≤zI o+zI l by have:=this l [];simpa [zZ,zI] using this
 intro l
 induction l with
 |nil=>intro o;simp [zI]
 | cons e r ih=>
   intro o;have h1:=ih (uS o e);have h2:=zpb o e
   have h3:zI (e::r)=e.bytes.length+zI r:=by simp [zI]
   rw [List.foldl_cons];omega
theorem zpc (o:List Evt) (e:Evt):(uS o e).length≤o.length+1:=by
 rcases List.eq_nil_or_concat o with rfl|⟨z,x,rfl⟩
 · simp [Yv]
 · rw [List.concat_eq_append,xU]
   split<;>simp
theorem zmO (l:List Evt) (i:Nat):zI (l.take i)≤zI l:=by
 have:=yD (l.take i) (l.drop i);rw [List.take_append_drop] at this;omega
theorem Uk {l:List Evt} {e:Evt} (h:e ∈ l):e.bytes.length≤zI l:=by
 obtain⟨a,b,rfl⟩:=List.append_of_mem h;have:=yD a (e::b)
 have h3:zI (e::b)=e.bytes.length+zI b:=by simp [zI]
 omega
theorem za5 (l:List Evt):(zZ l).length≤l.length:=by
 suffices ∀ l o:List Evt,(l.foldl uS o).length≤o.length+l.length by have:=this l [];simpa [zZ] using this
 intro l
 induction l with
 |nil=>intro o;simp
 | cons e r ih=>
   intro o;have h1:=ih (uS o e);have h2:=zpc o e;rw [List.foldl_cons,jh];omega
def WX (I:Alg) (args:List D) (hp:List HO):Option CT:=match args,hp with
 |[.v (.one (.row 0))],[.row .evt 34 l]=>(fun(l:List Evt)=>(some (.one ⟨I.hid (zI l≤1000000∧l.length≤10000000),(.ret (.v (.one (.row 1)))),[.row .evt 34 l,.row .evt 34 (I.hid ((zZ l)))]⟩):Option CT)) l
 |_,_=>none
theorem zfA:zx Tryz.prog 81 (WX alg):=by
 intro args hp r h;unfold WX at h;split at h<;>cases h
 rename_i l
 revert l;intro(l:List Evt)
 simp only [CT.Good,zi];intro hneed;obtain⟨hn1,hn2⟩:=hneed
 refine spcG zh mixed Tryz.func81 (by kernel_rfl) { nr:=[3],keep:=some [0,2,3,5,6,7,8,9,10]} [] (by kernel_rfl) ?_
 intro I X hI hX
 refine orcL ?_;go_invoke;refine orcS (by kernel_rfl) ?_
 simp only [zq,Nat.reduceAdd]
 refine zB hI zh mixed [] hX [0,3,8,9,10] (fun(g:Nat × List Evt)=>match g with|(i,o)=>i≤l.length∧o=zZ (l.take i)) (fun(g:Nat × List Evt)=>match g with|(i,o)=>⟨[(0,.v (.one (.row 0))),(3,.v (.one (.row 1))),(8,.v (.one (.row 0))),(9,.v (.one (.p (.int .i64 ((I.len (α:=Evt) l)))))),(10,.v (.one (.p (.int .i64 i))))],[.row .evt 34 l,.row .evt 34 o],52,none⟩) (fun(g:Nat × List Evt)=>match g with|(i,o)=>l.length - i) (0,[]) (by kernel_rfl) (by kernel_rfl) ?_ ?_
 · exact⟨jM _,rfl⟩
 rintro⟨i,o⟩ ⟨h1,h2⟩ A hA;simp only at hA h1 h2
 refine orcL ?_;go_invoke;refine orcS (by kernel_rfl) ?_
 simp only [zq,Nat.reduceAdd];subst hI;simp only [nrmA,nrmB,nrlB,reduceCtorEq];have hl1:=za5 (l.take i)
 have hl2:(l.take i).length≤i:=by rw [jv];omega
 have hl3:=za4 (l.take i)
 have hl4: ∀ x ∈ zZ (l.take i),x.bytes.length≤1000000:=fun x h=>by
  have a:=Uk h;have b:=zmO l i;omega
 have hw: ¬ i<l.length→o=zZ l:=fun h=>by rw [h2,jq (by omega)]
 have hy:i<l.length→zZ (l.take (i+1))=uS o (l.getD i ⟨0,⟨[],[],0,[],0⟩,[],⟨[],[],[],[]⟩,0⟩):=fun h=>by rw [jB h,Xe,h2];simp [h]
 have hl5:i<l.length→(l.getD i ⟨0,⟨[],[],0,[],0⟩,[],⟨[],[],[],[]⟩,0⟩).bytes.length≤1000000:=fun h=>by
  have:l.getD i ⟨0,⟨[],[],0,[],0⟩,[],⟨[],[],[],[]⟩,0⟩ ∈ l:=by simp [h]
  have:=Uk this;omega
 rw [← h2] at hl1 hl4
 refine⟨fun c=> ?_,fun c=>hw (by omega)⟩
 have hlt:i<l.length:=by omega
 have hy:=hy hlt;have hl5:=hl5 hlt;generalize l.getD i ⟨0,⟨[],[],0,[],0⟩,[],⟨[],[],[],[]⟩,0⟩=e at *
 have hgo: ∀ r:List Evt,r=uS o e→(fun p:Nat × List Evt=>p.1≤l.length∧p.2=zZ (l.take p.1)) (i+1,r):=fun r h=>⟨by simp only;omega,by simp only;rw [hy,h]⟩
 rcases List.eq_nil_or_concat o with he|⟨z,x,he⟩
 · subst he
   rw [Yv] at hgo;simp only [jh,ji]
   (repeat' (first|refine ja ?_ ?_|intro _))<;>first|omega|exact jb|exact jc ‹False›|skip
   all_goals first
    |omega
    |exact hA (i+1,_) (hgo _ rfl) (by simp only;omega)
 · rw [List.concat_eq_append] at he
   subst he;have hx:=hl4 x (List.mem_append_right _ (List.mem_singleton.2 rfl))
   have hz:(((z++[x]).length:Int) - 1).toNat=z.length:=by rw [jk,jr];omega
   have hg: ∀ d,(z++[x]).getD z.length d=x:=fun d=>by simp
   have hs: ∀ d,(z++[x]).set z.length d=z++[d]:=fun d=>by simp
   rw [xU] at hgo;rw [jk,jr] at hl1;simp only [hz,hg,hs];simp only [jk,jh,ji];clear hz hg hs
   (repeat' (first|refine ja ?_ ?_|intro _))<;>first|omega|exact jb|exact jc ‹False›|skip
   all_goals first
    |omega
    |(rw [if_pos ⟨‹e.kind=2›,‹x.kind=2›⟩] at hgo;exact hA (i+1,_) (hgo _ rfl) (by simp only;omega))
    |(rw [if_neg (fun h=>‹¬ e.kind=2› h.1)] at hgo;exact hA (i+1,_) (hgo _ rfl) (by simp only;omega))
    |(rw [if_neg (fun h=>‹¬ x.kind=2› h.2)] at hgo;exact hA (i+1,_) (hgo _ rfl) (by simp only;omega))
def wu:Know Tryz.prog:=⟨81,WX,zfA⟩
def wo:Know Tryz.prog:=⟨81,fun I=>zy I (WX I),zf zfA⟩
end Go.Proofs.YtkjepecoodjbmaaGreatDoor
namespace Go.Proofs.YtkjepecoodjbmaaGreatDoor
open Go Go.Sep Go.Ab
set_option maxRecDepth 100000
theorem zg7 {m:Str} {n:Nat} (h:m=[]∨n<m.length) (c:UInt8):(rY m n c).1.length+(rY m n c).2.1≤n+1:=by
 unfold rY
 by_cases h0:m=[]
 · rw [if_pos h0];simp only [jr];omega
 · rw [if_neg h0]
   have hn:n<m.length:=h.resolve_left h0
   have hf:=(P.ziD m c P.take_len n n (jL _) (by omega)).le
   unfold P.feed;simp only
   repeat' split
   all_goals simp only [jk,jr,jv]
   all_goals omega
theorem ztH (f:Fm) {i:Nat} (h:FmI f i) (c:UInt8):(fmSk f c).held.toNat≤f.held.toNat+1:=by
 have:=zg7 (m:=f.mark) (n:=f.held.toNat) (.inr (by have:=h.h0;have:=h.h1;omega)) c
 show(((rY f.mark f.held.toNat c).2.1:Nat):Int).toNat≤_
 rw [jJ];omega
theorem rZ (o:List Evt) (e:Evt) (h:e.bytes=[]):zI (o++[e])=zI o:=by
 rw [yD,xG,h];rfl
theorem ziA {f:Fm} {i:Nat} (h:FmI f i):zI (wZ f).out+(wZ f).held.toNat≤zI f.out+f.held.toNat+2:=by
 have h2:=h.p0;unfold wZ
 split
 · show zI (f.out++[evF _])+_≤_
   rw [rZ _ _ rfl];simp only [xM];omega
 · split
   · show zI (f.out++[evF _])+_≤_
     rw [rZ _ _ rfl];simp only [xM];omega
   · have hI:FmI { f with parts:=f.parts+1,pos:=6,out:=[],skip:=2} i:=⟨h.bs,h.ml,h.h0,h.h1,(show(0:Int)≤2∧(2:Int)≤2 by decide),by simp only;omega,h.fl,h.ff,h.lb,(fun e=>absurd (show(6:Int)=5 from e) (by decide)),jM _⟩
     have a:=ztH _ hI 13;have b:=ztH _ (zc3 hI 13) 10
     show zI (f.out++[evP _])+(fmSk (fmSk { f with parts:=f.parts+1,pos:=6,out:=[],skip:=2} 13) 10).held.toNat≤_
     rw [rZ _ _ rfl];simp only at a;omega
theorem zmF {f:Fm} {i:Nat} (h:FmI f i) (s:Str):zI (tq f s).out+(tq f s).held.toNat≤zI f.out+f.held.toNat+2:=by
 unfold tq
 split
 · exact ziA h
 · split
   · show zI (f.out++[evF _])+_≤_
     rw [rZ _ _ rfl];simp only [xM];omega
   · split
     · show zI (f.out++[evF _])+_≤_
       rw [rZ _ _ rfl];simp only [xM];omega
     · simp only;omega
theorem zix {f:Fm} {i:Nat} (h:FmI f i) (c:UInt8):zI (fmF f c).out+(fmF f c).held.toNat≤zI f.out+f.held.toNat+2:=by
 have hfail: ∀ (f:Fm) (c:Int),zI (xM f c).out=zI f.out∧(xM f c).held=f.held:=fun f c=>⟨rZ _ _ rfl,rfl⟩;unfold fmF
 split
 · have hp:=zg7 (m:=f.mark) (n:=f.held.toNat) (.inr (by have:=h.h0;have:=h.h1;omega)) c
   have hd:(tK f c).length≤(rY f.mark f.held.toNat c).1.length:=by unfold tK;rw [jC];omega
   have e0:(fmSk f c).held.toNat=(rY f.mark f.held.toNat c).2.1:=jJ _;unfold ug
   split
   · show zI (if f.pos=6∧tK f c≠[] then f.out++[evB (tK f c)] else f.out)+(fmSk f c).held.toNat≤_
     rw [e0]
     split
     · rw [yD,xG];simp only [evB];omega
     · omega
   · show zI (if f.pos=6 then(if tK f c≠[] then f.out++[evB (tK f c),evO] else f.out++[evO]) else f.out)+(fmSk f c).held.toNat≤_
     rw [e0]
     have e1:zI [evB (tK f c),evO]=(tK f c).length:=by simp [zI,evB,evO]
     have e2:zI [evO]=0:=rfl
     split
     · split
       · rw [yD,e1];omega
       · rw [yD,e2];omega
     · omega
 · split
   · unfold wS
     repeat' split
     all_goals first
      |(simp only;omega)
      |(rw [(hfail _ _).1,(hfail _ _).2];omega)
      |(show zI (f.out++[evE])+_≤_;rw [rZ _ _ rfl];simp only;omega)
   · split
     · split
       · rw [(hfail _ _).1,(hfail _ _).2];omega
       · simp only;omega
     · split
       · split
         · rw [(hfail _ _).1,(hfail _ _).2];simp only;omega
         · split
           · have hn:(lnOf f).b.length≤i:=by
              unfold lnOf
              cases e:f.ln with
              |none=>simp [ln0]
              |some l=>exact h.lb l e
             have hb:=zsa (lnOf f) c
             have hm:=zkX h (show i≤i+1 by omega)
             exact zmF (i:=i+1) (f:= { f with ln:=some (lnF (lnOf f) c).1}) ⟨hm.bs,hm.ml,hm.h0,hm.h1,hm.s0,hm.p0,hm.fl,hm.ff,(fun l e=>by cases e;omega),(fun _ e=>by cases e),hm.on⟩ _
           · simp only;omega
       · omega
theorem zpH (f:Fm) (b:Str) {i:Nat} (h:i<b.length):V5 f (b.take (i+1))=fmF (V5 f (b.take i)) (b.getD i 0):=by
 rw [show b.getD i 0=b[i] by simp [h],jB h]
 unfold V5;rw [List.foldl_append];rfl
theorem ziw: ∀ (b:Str) (f:Fm) (i:Nat),FmI f i→FmI (V5 f b) (i+b.length)
 |[],f,i,h=>h
 | c::r,f,i,h=>by
   have:=ziw r (fmF f c) (i+1) (zsC h c)
   rw [jh,show i+(r.length+1)=i+1+r.length by omega]
   exact this
def fmN0 (f:Fm) (b:Str):Prop:=∃ n,FmI { f with out:=[]} n∧n+b.length≤400000
theorem zsz (m:Str) (hd:Int) (bs:List Int) (p:Int) (fs:List Fld) (pa sk co:Int) (out:List Evt) (b:Str) (hneed:fmN0 ⟨m,hd,bs,p,none,fs,pa,sk,co,out⟩ b):Spc Tryz.prog 247 [.v (.one (.ptr 0 0)),.v (.one (.p (.list .byte b)))] [.abs (.fm ⟨m,hd,bs,p,none,fs,pa,sk,co,out⟩)] (.ret (.v (.one (.row 1)))) [.abs (.fm ((xK ⟨m,hd,bs,p,none,fs,pa,sk,co,out⟩ b))),.row .evt 34 ((zZ (xK ⟨m,hd,bs,p,none,fs,pa,sk,co,out⟩ b).out))]:=by
 obtain⟨n,hI0,hnb⟩:=hneed;have hml:=hI0.ml;have hh1:=hI0.h1;have hh0:=hI0.h0;simp only at hml hh1 hh0
 have hh:hd.toNat≤1000:=by
  omega
 refine spcG zh mixed Tryz.func247 (by kernel_rfl) { cfgF with keep:=some [0,1,4,6,10,11,12]} [QO,QN,wu,wo] (by kernel_rfl) ?_
 intro I X hI hX
 refine orcL ?_;go_invoke;refine orcS (by kernel_rfl) ?_
 simp only [zq,Nat.reduceAdd];unfold xK;simp only at hI0 ⊢
 refine zB hI zh mixed [QO,QN,wu,wo] hX [0,10,11,12] (fun(g:Nat × Fm)=>match g with|(i,r)=>i≤b.length∧r=V5 (⟨m,hd,bs,p,none,fs,pa,sk,co,[]⟩:Fm) (b.take i)∧FmI r (n+i)∧zI r.out+r.held.toNat≤hd.toNat+2 * i) (fun(g:Nat × Fm)=>match g with|(i,r)=>⟨[(0,.v (.one (.ptr 0 0))),(10,.v (.one (.p (.list .byte b)))),(11,.v (.one (.p (.int .i64 ((I.len (α:=UInt8) b)))))),(12,.v (.one (.p (.int .i64 i))))],[.abs (.fm r)],25,none⟩) (fun(g:Nat × Fm)=>match g with|(i,r)=>b.length - i) (0,(⟨m,hd,bs,p,none,fs,pa,sk,co,[]⟩:Fm)) (by kernel_rfl) (by kernel_rfl) ?_ ?_
 · exact⟨jM _,rfl,hI0,by simp [zI]⟩
 rintro⟨i,⟨m2,hd2,bs2,p2,ln2,fs2,pa2,sk2,co2,out2⟩⟩ ⟨h1,h2,h3,h4⟩ A hA;simp only at hA h1 h2 h3 h4
 have hrn:i<b.length→fmN _:=fun h=>⟨n+i,by omega,h3⟩
 have hgo:i<b.length→_:=fun h=>hA (i+1,fmF ⟨m2,hd2,bs2,p2,ln2,fs2,pa2,sk2,co2,out2⟩ (b.getD i 0)) ⟨by simp only;omega,by simp only;rw [zpH _ _ h,← h2],by simp only;exact zsC h3 _,by simp only;have:=zix h3 (b.getD i 0);simp only at this;omega⟩ (by simp only;omega)
 have hend: ¬ i<b.length→_:=fun h=>h2.trans (by rw [jq (by omega)])
 rcases ln2 with _|l2
 · have h0:=h1
   refine orcL ?_;go_invoke;refine orcS (by kernel_rfl) ?_
   simp only [zq,Nat.reduceAdd];subst hI;simp only [nrmA,nrmB,nrlB,reduceCtorEq,HO.abs.injEq,Gh.fm.injEq]
   by_cases hi:i<b.length
   · have hg:=hgo hi
     have hn:=hrn hi
     (repeat' (first|refine ja ?_ ?_|intro _))<;>first|omega|exact jb|exact jc ‹False›|skip
     all_goals first|omega|exact hg|exact hn|contradiction|(have:=(b.getD i 0).toNat_lt;omega)|trace_state
   · have hg:=hend hi
     rw [← hg];have hon:=h3.on;simp only at hon
     (repeat' (first|refine ja ?_ ?_|intro _))<;>first|omega|exact jb|exact jc ‹False›|skip
     all_goals first|omega|rfl|contradiction|exact⟨by omega,by omega⟩|trace_state
 · have h0:=h1
   refine orcL ?_;go_invoke;refine orcS (by kernel_rfl) ?_
   simp only [zq,Nat.reduceAdd];subst hI;simp only [nrmA,nrmB,nrlB,reduceCtorEq,HO.abs.injEq,Gh.fm.injEq]
   by_cases hi:i<b.length
   · have hg:=hgo hi
     have hn:=hrn hi
     (repeat' (first|refine ja ?_ ?_|intro _))<;>first|omega|exact jb|exact jc ‹False›|skip
     all_goals first|omega|exact hg|exact hn|contradiction|(have:=(b.getD i 0).toNat_lt;omega)|trace_state
   · have hg:=hend hi
     rw [← hg];have hon:=h3.on;simp only at hon
     (repeat' (first|refine ja ?_ ?_|intro _))<;>first|omega|exact jb|exact jc ‹False›|skip
     all_goals first|omega|rfl|contradiction|exact⟨by omega,by omega⟩|trace_state
theorem zsy (m:Str) (hd:Int) (bs:List Int) (p:Int) (ln:Ln) (fs:List Fld) (pa sk co:Int) (out:List Evt) (b:Str) (hneed:fmN0 ⟨m,hd,bs,p,some ln,fs,pa,sk,co,out⟩ b):Spc Tryz.prog 247 [.v (.one (.ptr 0 0)),.v (.one (.p (.list .byte b)))] [.abs (.fm ⟨m,hd,bs,p,some ln,fs,pa,sk,co,out⟩)] (.ret (.v (.one (.row 1)))) [.abs (.fm ((xK ⟨m,hd,bs,p,some ln,fs,pa,sk,co,out⟩ b))),.row .evt 34 ((zZ (xK ⟨m,hd,bs,p,some ln,fs,pa,sk,co,out⟩ b).out))]:=by
 obtain⟨n,hI0,hnb⟩:=hneed;have hml:=hI0.ml;have hh1:=hI0.h1;have hh0:=hI0.h0;simp only at hml hh1 hh0
 have hh:hd.toNat≤1000:=by
  omega
 refine spcG zh mixed Tryz.func247 (by kernel_rfl) { cfgF with keep:=some [0,1,4,6,10,11,12]} [QO,QN,wu,wo] (by kernel_rfl) ?_
 intro I X hI hX
 refine orcL ?_;go_invoke;refine orcS (by kernel_rfl) ?_
 simp only [zq,Nat.reduceAdd];unfold xK;simp only at hI0 ⊢
 refine zB hI zh mixed [QO,QN,wu,wo] hX [0,10,11,12] (fun(g:Nat × Fm)=>match g with|(i,r)=>i≤b.length∧r=V5 (⟨m,hd,bs,p,some ln,fs,pa,sk,co,[]⟩:Fm) (b.take i)∧FmI r (n+i)∧zI r.out+r.held.toNat≤hd.toNat+2 * i) (fun(g:Nat × Fm)=>match g with|(i,r)=>⟨[(0,.v (.one (.ptr 0 0))),(10,.v (.one (.p (.list .byte b)))),(11,.v (.one (.p (.int .i64 ((I.len (α:=UInt8) b)))))),(12,.v (.one (.p (.int .i64 i))))],[.abs (.fm r)],25,none⟩) (fun(g:Nat × Fm)=>match g with|(i,r)=>b.length - i) (0,(⟨m,hd,bs,p,some ln,fs,pa,sk,co,[]⟩:Fm)) (by kernel_rfl) (by kernel_rfl) ?_ ?_
 · exact⟨jM _,rfl,hI0,by simp [zI]⟩
 rintro⟨i,⟨m2,hd2,bs2,p2,ln2,fs2,pa2,sk2,co2,out2⟩⟩ ⟨h1,h2,h3,h4⟩ A hA;simp only at hA h1 h2 h3 h4
 have hrn:i<b.length→fmN _:=fun h=>⟨n+i,by omega,h3⟩
 have hgo:i<b.length→_:=fun h=>hA (i+1,fmF ⟨m2,hd2,bs2,p2,ln2,fs2,pa2,sk2,co2,out2⟩ (b.getD i 0)) ⟨by simp only;omega,by simp only;rw [zpH _ _ h,← h2],by simp only;exact zsC h3 _,by simp only;have:=zix h3 (b.getD i 0);simp only at this;omega⟩ (by simp only;omega)
 have hend: ¬ i<b.length→_:=fun h=>h2.trans (by rw [jq (by omega)])
 rcases ln2 with _|l2
 · have h0:=h1
   refine orcL ?_;go_invoke;refine orcS (by kernel_rfl) ?_
   simp only [zq,Nat.reduceAdd];subst hI;simp only [nrmA,nrmB,nrlB,reduceCtorEq,HO.abs.injEq,Gh.fm.injEq]
   by_cases hi:i<b.length
   · have hg:=hgo hi
     have hn:=hrn hi
     (repeat' (first|refine ja ?_ ?_|intro _))<;>first|omega|exact jb|exact jc ‹False›|skip
     all_goals first|omega|exact hg|exact hn|contradiction|(have:=(b.getD i 0).toNat_lt;omega)|trace_state
   · have hg:=hend hi
     rw [← hg];have hon:=h3.on;simp only at hon
     (repeat' (first|refine ja ?_ ?_|intro _))<;>first|omega|exact jb|exact jc ‹False›|skip
     all_goals first|omega|rfl|contradiction|exact⟨by omega,by omega⟩|trace_state
 · have h0:=h1
   refine orcL ?_;go_invoke;refine orcS (by kernel_rfl) ?_
   simp only [zq,Nat.reduceAdd];subst hI;simp only [nrmA,nrmB,nrlB,reduceCtorEq,HO.abs.injEq,Gh.fm.injEq]
   by_cases hi:i<b.length
   · have hg:=hgo hi
     have hn:=hrn hi
     (repeat' (first|refine ja ?_ ?_|intro _))<;>first|omega|exact jb|exact jc ‹False›|skip
     all_goals first|omega|exact hg|exact hn|contradiction|(have:=(b.getD i 0).toNat_lt;omega)|trace_state
   · have hg:=hend hi
     rw [← hg];have hon:=h3.on;simp only at hon
     (repeat' (first|refine ja ?_ ?_|intro _))<;>first|omega|exact jb|exact jc ‹False›|skip
     all_goals first|omega|rfl|contradiction|exact⟨by omega,by omega⟩|trace_state
def Ub (I:Alg) (args:List D) (hp:List HO):Option CT:=match args,hp with
 |[.v (.one (.ptr 0 0)),.v (.one (.p (.list .byte b)))],[.abs (.fm f)]=>(fun(f:Fm) (b:Str)=>(some (.one ⟨I.hid (fmN0 f b),(.ret (.v (.one (.row 1)))),[.abs (.fm (I.hid ((xK f b)))),.row .evt 34 (I.hid ((zZ (xK f b).out)))]⟩):Option CT)) f b
 |_,_=>none
theorem zgY:zx Tryz.prog 247 (Ub alg):=by
 intro args hp r h;unfold Ub at h;split at h<;>cases h
 rename_i b f;simp only [CT.Good,zi];intro hneed;obtain⟨m,hd,bs,p,ln,fs,pa,sk,co,out⟩:=f
 cases ln with
 |none=>exact zsz m hd bs p fs pa sk co out b hneed
 |some ln=>exact zsy m hd bs p ln fs pa sk co out b hneed
def zbq:Know Tryz.prog:=⟨247,Ub,zgY⟩
def zbp:Know Tryz.prog:=⟨247,fun I=>zy I (Ub I),zf zgY⟩
theorem zpL (m:Str) (hd:Int) (bs:List Int) (p:Int) (fs:List Fld) (pa sk co:Int) (out:List Evt):Spc Tryz.prog 248 [.v (.one (.ptr 0 0))] [.abs (.fm ⟨m,hd,bs,p,none,fs,pa,sk,co,out⟩)] (.ret (.v (.one (.p (.int .i64 ((rU ⟨m,hd,bs,p,none,fs,pa,sk,co,out⟩))))))) [.abs (.fm ⟨m,hd,bs,p,none,fs,pa,sk,co,out⟩)]:=by
 generalize hr:rU ⟨m,hd,bs,p,none,fs,pa,sk,co,out⟩=r;unfold rU at hr;simp only at hr
 refine spcG zh mixed Tryz.func248 (by kernel_rfl) { cfgF with keep:=some [0,2,6]} [] (by kernel_rfl) ?_
 intro I X hI hX
 refine orcL ?_;go_invoke;refine orcS (by kernel_rfl) ?_
 simp only [zq,Nat.reduceAdd];subst hI;simp only [nrmA,nrmB,nrlB,reduceCtorEq,HO.abs.injEq,Gh.fm.injEq]
 (repeat' (first|refine ja ?_ ?_|intro _))<;>first|omega|exact jb|exact jc ‹False›|skip
 all_goals first|omega|rfl|(subst hr;simp [*];done)|trace_state
theorem zpK (m:Str) (hd:Int) (bs:List Int) (p:Int) (ln:Ln) (fs:List Fld) (pa sk co:Int) (out:List Evt):Spc Tryz.prog 248 [.v (.one (.ptr 0 0))] [.abs (.fm ⟨m,hd,bs,p,some ln,fs,pa,sk,co,out⟩)] (.ret (.v (.one (.p (.int .i64 ((rU ⟨m,hd,bs,p,some ln,fs,pa,sk,co,out⟩))))))) [.abs (.fm ⟨m,hd,bs,p,some ln,fs,pa,sk,co,out⟩)]:=by
 generalize hr:rU ⟨m,hd,bs,p,some ln,fs,pa,sk,co,out⟩=r;unfold rU at hr;simp only at hr
 refine spcG zh mixed Tryz.func248 (by kernel_rfl) { cfgF with keep:=some [0,2,6]} [] (by kernel_rfl) ?_
 intro I X hI hX
 refine orcL ?_;go_invoke;refine orcS (by kernel_rfl) ?_
 simp only [zq,Nat.reduceAdd];subst hI;simp only [nrmA,nrmB,nrlB,reduceCtorEq,HO.abs.injEq,Gh.fm.injEq]
 (repeat' (first|refine ja ?_ ?_|intro _))<;>first|omega|exact jb|exact jc ‹False›|skip
 all_goals first|omega|rfl|(subst hr;simp [*];done)|trace_state
def Xw (I:Alg) (args:List D) (hp:List HO):Option CT:=match args,hp with
 |[.v (.one (.ptr 0 0))],[.abs (.fm f)]=>(fun(f:Fm)=>(some (.one ⟨I.hid (True),(.ret (.v (.one (.p (.int .i64 (I.hid ((rU f)))))))),[.abs (.fm f)]⟩):Option CT)) f
 |_,_=>none
theorem zc6:zx Tryz.prog 248 (Xw alg):=by
 intro args hp r h;unfold Xw at h;split at h<;>cases h
 rename_i f;simp only [CT.Good,zi];intro _;obtain⟨m,hd,bs,p,ln,fs,pa,sk,co,out⟩:=f
 cases ln with
 |none=>exact zpL m hd bs p fs pa sk co out
 |some ln=>exact zpK m hd bs p ln fs pa sk co out
def Tn:Know Tryz.prog:=⟨248,Xw,zc6⟩
def Tm:Know Tryz.prog:=⟨248,fun I=>zy I (Xw I),zf zc6⟩
def V9 (I:Alg) (args:List D) (hp:List HO):Option CT:=match args,hp with
 |[.v (.one (.p (.str s)))],[]=>(fun(s:Str)=>(some (.one ⟨I.hid (s.length≤140737488355328∧Vt s=true),(.ret (.tup [(.one (.ptr 0 0)),(.one (.p (.int .i64 0)))])),[.abs (.fm (I.hid ((fm0 s))))]⟩):Option CT)) s
 |_,_=>none
theorem zgT:zx Tryz.prog 246 (V9 alg):=by
 intro args hp r h;unfold V9 at h;split at h<;>cases h
 rename_i s;simp only [CT.Good,zi];intro hneed;obtain⟨hs,hm⟩:=hneed
 have hl:s.length≤70:=by unfold Vt at hm;simp at hm;omega
 generalize hr:fm0 s=r;unfold fm0 fmSk at hr;simp only [jJ] at hr
 refine spcG zh mixed Tryz.func246 (by kernel_rfl) { cfgF with keep:=some [0,2,3,4]} [Tz,Tv,ztr,ztq,zlc,zlb] (by kernel_rfl) ?_
 intro I X hI hX
 refine orcL ?_;go_invoke;refine orcS (by kernel_rfl) ?_
 simp only [zq,Nat.reduceAdd];unfold zbo at hr;subst hI;simp only [nrmA,nrmB,nrlB,reduceCtorEq,HO.abs.injEq,Gh.fm.injEq]
 have hM:([13,10,45,45]++s).length=s.length+4:=by simp
 generalize([13,10,45,45]++s:Str)=M at *;have h1:=Uf M 0 13
 (repeat' (first|refine ja ?_ ?_|intro _))<;>first|omega|exact jb|exact jc ‹False›|skip
 all_goals first
  |omega
  |exact .inr (by omega)
  |exact h1
  |exact Int.natCast_nonneg _
  |exact absurd (hm.symm.trans ‹Vt s=false›) (by decide)
  |(subst hr;rfl)
  |(simp only [jh,ji];omega)
def zbn:Know Tryz.prog:=⟨246,V9,zgT⟩
def zbm:Know Tryz.prog:=⟨246,fun I=>zy I (V9 I),zf zgT⟩
theorem zva (s:Str) (hneed:s.length≤140737488355328∧Vt s=false):Spc Tryz.prog 246 [.v (.one (.p (.str s)))] [] (.ret (.tup [(.one (.p (.val (.pointer none)))),(.one (.p (.int .i64 5)))])) []:=by
 obtain⟨hs,hm⟩:=hneed
 refine spcG zh mixed Tryz.func246 (by kernel_rfl) { cfgF with keep:=some [0,2,3,4]} [Tz,Tv,ztr,ztq,zlc,zlb,zbn,zbm] (by kernel_rfl) ?_
 intro I X hI hX
 refine orcL ?_;go_invoke;refine orcS (by kernel_rfl) ?_
 simp only [zq,Nat.reduceAdd];subst hI;simp only [nrmA,nrmB,nrlB,reduceCtorEq]
 exact⟨hs,fun _=>trivial,by simp [hm]⟩
end Go.Proofs.YtkjepecoodjbmaaGreatDoor
namespace Go.Proofs.YtkjepecoodjbmaaGreatDoor
open Go Go.Sep Go.Ab
inductive GR:List Evt→Prop
 |nil:GR []
 |other {l:List Evt} {e:Evt} (h:GR l) (h2:e.kind≠2) (h5:e.kind=5→e.part.bytes=[]):GR (l++[e])
 |body {l:List Evt} {x e:Evt} (h:GR (l++[x])) (hx:x.kind=5∨x.kind=2) (h2:e.kind=2) (hb:e.bytes≠[]):GR (l++[x]++[e])
inductive GJ:List Evt→Prop
 |nil:GJ []
 |other {l:List Evt} {e:Evt} (h:GJ l) (h2:e.kind≠2) (h5:e.kind=5→e.part.bytes=[]):GJ (l++[e])
 |body {l:List Evt} {x e:Evt} (h:GJ (l++[x])) (hx:x.kind=5) (h2:e.kind=2) (hb:e.bytes≠[]):GJ (l++[x]++[e])
theorem zuR {l:List Evt} {x:Evt} (h:GR (l++[x])): ∃ z y,zZ (l++[x])=z++[y]∧y.kind=x.kind∧(x.kind≠2→y=x):=by
 rw [Xe]
 rcases List.eq_nil_or_concat (zZ l) with hn|⟨z,y,hz⟩
 · rw [hn,Yv];exact⟨[],x,rfl,rfl,fun _=>rfl⟩
 · rw [hz,List.concat_eq_append,xU]
   split
   · rename_i h;exact⟨z,_,rfl,h.1.symm,fun k=>absurd h.1 k⟩
   · exact⟨z++[y],x,rfl,rfl,fun _=>rfl⟩
theorem zuT {z:List Evt} {y:Evt} (h:GJ (z++[y])) (k:y.kind=2): ∃ l x,z=l++[x]∧GJ (l++[x])∧x.kind=5∧y.bytes≠[]:=by
 generalize hw:z++[y]=w at h
 cases h with
 |nil=>simp at hw
 | other h h2 h5=>
   have:=List.append_inj' hw rfl;have e:=List.singleton_inj.1 this.2;exact absurd (e▸k) h2
 | body h hx h2 hb=>
   have:=List.append_inj' hw rfl;have e:=List.singleton_inj.1 this.2
   exact⟨_,_,this.1,h,hx,by rw [e];exact hb⟩
theorem zxs {l:List Evt} (h:GR l):GJ (zZ l):=by
 induction h with
 |nil=>exact .nil
 | @other l e h h2 h5 ih=>
   rw [Xe]
   rcases List.eq_nil_or_concat (zZ l) with hn|⟨z,y,hz⟩
   · rw [hn,Yv];exact GJ.other (l:=[]) .nil h2 h5
   · rw [hz,List.concat_eq_append] at ih ⊢
     rw [xU,if_neg (fun k=>h2 k.1)];exact .other ih h2 h5
 | @body l x e h hx h2 hb ih=>
   obtain⟨z,y,hz,hk,hy⟩:=zuR h;rw [Xe,hz,xU];rw [hz] at ih
   by_cases k:y.kind=2
   · rw [if_pos ⟨h2,k⟩]
     obtain⟨l',x',rfl,g1,g2,g3⟩:=zuT ih k;refine .body g1 g2 rfl ?_;simp only [evB];intro h;exact g3 (List.append_eq_nil_iff.1 h).1
   · rw [if_neg (fun h=>k h.2)]
     exact .body ih (by rcases hx with hx|hx;rw [hk];exact hx;exact absurd (hk.trans hx) k) h2 hb
def GI (l:List Evt) (i:Nat) (d:Evt):Prop:=((l.getD i d).kind=2→(l.getD i d).bytes≠[]∧∃ j,i=j+1∧(l.getD j d).kind=5)∧((l.getD i d).kind=5→(l.getD i d).part.bytes=[])
theorem zgo {a b:List Evt} {i:Nat} (h:i<a.length) (d:Evt):(a++b).getD i d=a.getD i d:=by
 rw [jH,jy h,← jH]
theorem zxt {l:List Evt} (h:GJ l) (d:Evt): ∀ i,i<l.length→GI l i d:=by
 induction h with
 |nil=>intro i hi;simp at hi
 | @other l e h h2 h5 ih=>
   intro i hi;rw [jk,jr] at hi
   by_cases k:i<l.length
   · obtain⟨a,b⟩:=ih i k
     unfold GI;rw [zgo k];refine⟨fun q=> ?_,b⟩;obtain⟨a1,j,rfl,a2⟩:=a q
     exact⟨a1,j,rfl,by rw [zgo (by omega)];exact a2⟩
   · have e1:(l++[e]).getD i d=e:=by rw [show i=l.length by omega];simp
     unfold GI;rw [e1];exact⟨fun q=>absurd q h2,h5⟩
 | @body l x e h hx h2 hb ih=>
   intro i hi;rw [jk,jr] at hi
   by_cases k:i<(l++[x]).length
   · obtain⟨a,b⟩:=ih i k
     unfold GI;rw [zgo k];refine⟨fun q=> ?_,b⟩;obtain⟨a1,j,rfl,a2⟩:=a q
     exact⟨a1,j,rfl,by rw [zgo (by omega)];exact a2⟩
   · have hl:(l++[x]).length=l.length+1:=by simp
     have hi2:i=l.length+1:=by omega
     subst hi2
     have e1:(l++[x]++[e]).getD (l.length+1) d=e:=by rw [← hl];simp
     have e2:(l++[x]++[e]).getD l.length d=x:=by rw [zgo (by omega)];simp
     unfold GI;rw [e1]
     exact⟨fun _=>⟨hb,l.length,rfl,by rw [e2];exact hx⟩,fun q=>absurd (h2.symm.trans q) (by decide)⟩
def GM (f:Fm):Prop:=GR f.out∧(f.pos=6→∃ l x,f.out=l++[x]∧(x.kind=5∨x.kind=2))
theorem zpr {f:Fm} (h:GR f.out) {e:Evt} (h2:e.kind≠2) (h5:e.kind=5→e.part.bytes=[]):GR (f.out++[e]):=.other h h2 h5
theorem X7 {f:Fm} (h:GM f) (c:Int):GM (xM f c):=⟨zpr h.1 (show(4:Int)≠2 by decide) (fun e=>absurd (show(4:Int)=5 from e) (by decide)),fun e=>absurd (show(8:Int)=6 from e) (by decide)⟩
theorem zsm {f:Fm} (h:GM f):GM (wZ f):=by
 unfold wZ
 split
 · exact X7 h _
 · split
   · exact X7 h _
   · exact⟨zpr h.1 (show(5:Int)≠2 by decide) (fun _=>zh6 f.fields),fun _=>⟨_,_,rfl,.inl rfl⟩⟩
theorem zuS {f:Fm} (h:GM f) (s:Str):GM (tq f s):=by
 unfold tq
 split
 · exact zsm h
 · split
   · exact X7 h _
   · split
     · exact X7 h _
     · exact h
theorem gm_f {f:Fm} (h:GM f) (c:UInt8):GM (fmF f c):=by
 have hno: ∀ {n:Int},n≠6→n=6→∃ l x,f.out=l++[x]∧(x.kind=5∨x.kind=2):=fun a b=>absurd b a;unfold fmF
 split
 · unfold ug
   split
   · show GR (if f.pos=6∧tK f c≠[] then f.out++[evB (tK f c)] else f.out)∧(f.pos=6→∃ l x,(if f.pos=6∧tK f c≠[] then f.out++[evB (tK f c)] else f.out)=l++[x]∧(x.kind=5∨x.kind=2))
     split
     · rename_i k
       obtain⟨l,x,e,hx⟩:=h.2 k.1;refine⟨?_,fun _=>⟨f.out,_,rfl,.inr rfl⟩⟩;have:=h.1;rw [e] at this ⊢;exact .body this hx rfl k.2
     · exact h
   · show GR (if f.pos=6 then(if tK f c≠[] then f.out++[evB (tK f c),evO] else f.out++[evO]) else f.out)∧((1:Int)=6→_)
     refine⟨?_,fun e=>absurd e (by decide)⟩
     split
     · rename_i k
       obtain⟨l,x,e,hx⟩:=h.2 k
       split
       · rename_i k2
         rw [show f.out++[evB (tK f c),evO]=f.out++[evB (tK f c)]++[evO] by simp]
         refine .other ?_ (by decide) (fun q=>absurd (show(6:Int)=5 from q) (by decide))
         have:=h.1;rw [e] at this ⊢;exact .body this hx rfl k2
       · exact .other h.1 (by decide) (fun q=>absurd (show(6:Int)=5 from q) (by decide))
     · exact h.1
 · split
   · unfold wS
     split
     · exact⟨h.1,fun e=>absurd (show(2:Int)=6 from e) (by decide)⟩
     · split
       · exact⟨zpr h.1 (show(3:Int)≠2 by decide) (fun e=>absurd (show(3:Int)=5 from e) (by decide)),fun e=>absurd (show(7:Int)=6 from e) (by decide)⟩
       · split
         · exact⟨h.1,fun e=>absurd (show(3:Int)=6 from e) (by decide)⟩
         · split
           · exact⟨h.1,fun e=>absurd (show(4:Int)=6 from e) (by decide)⟩
           · exact X7 h 5
   · split
     · split
       · exact X7 h 2
       · exact⟨h.1,fun e=>absurd (show(5:Int)=6 from e) (by decide)⟩
     · split
       · have hk:GM { f with ln:=some (lnF (lnOf f) c).1}:=h
         split
         · exact X7 hk _
         · split
           · exact zuS hk _
           · exact hk
       · exact h
theorem ztA: ∀ (b:Str) (f:Fm),GM f→GM (V5 f b)
 |[],f,h=>h
 |c::r,f,h=>ztA r (fmF f c) (gm_f h c)
theorem zot (s b:Str) (d:Evt): ∀ i,i<(zZ (xK (fm0 s) b).out).length→GI (zZ (xK (fm0 s) b).out) i d:=
 zxt (zxs (ztA b { fm0 s with out:=[]} ⟨.nil,fun e=>absurd (show(0:Int)=6 from e) (by decide)⟩).1) d
theorem zvd {s:Str} (h:s.length≤70):FmI { fm0 s with out:=[]} 0:=by
 have h0:FmI ⟨zbo s,0,Rk (zbo s),0,none,[],0,0,0,[]⟩ 0:=
  ⟨rfl,by unfold zbo;simp;omega,Int.le_refl _,by unfold zbo;simp;omega,⟨Int.le_refl _,(show(0:Int)≤2 by decide)⟩,⟨Int.le_refl _,(show(0:Int)≤12 by decide)⟩,jM _,(fun x hx=>by cases hx),(fun l e=>by cases e),(fun e=>absurd (show(0:Int)=5 from e) (by decide)),jM _⟩
 exact zc3 (zc3 h0 13) 10
theorem zfJ (l:List Evt) (d:Evt) {i:Nat} (h:i<l.length):(l.take (i+1)).foldl prtS []=prtS ((l.take i).foldl prtS []) (l.getD i d):=by
 rw [jB h,List.foldl_append]
 simp [h]
theorem zoA {l:List Evt} {d:Evt} {i:Nat} (h:i<l.length) (hg: ∀ j,j<l.length→GI l j d) (k:(l.getD i d).kind=2): ∃ z p,(l.take i).foldl prtS []=z++[p]∧p.bytes=[]∧(l.getD i d).bytes≠[]:=by
 obtain⟨hb,j,rfl,hj⟩:=(hg i h).1 k
 refine⟨(l.take j).foldl prtS [],(l.getD j d).part,?_,(hg j (by omega)).2 hj,hb⟩
 rw [zfJ l d (show j<l.length by omega),prtS,if_pos hj]
theorem zrW (l:List Evt): ∀ o:List Prt,(l.foldl prtS o).length≤o.length+l.length:=by
 induction l with
 |nil=>intro o;simp
 | cons e r ih=>
   intro o;have h:=ih (prtS o e)
   have h2 :(prtS o e).length≤o.length+1:=by
    unfold prtS
    split
    · simp
    · split
      · split
        · rename_i p hp
          simp only [jk,List.length_dropLast,jr];omega
        · omega
      · omega
   rw [List.foldl_cons,jh];omega
theorem zgP: ∀ (b:Str) (f:Fm) (i:Nat),FmI f i→zI (V5 f b).out+(V5 f b).held.toNat≤zI f.out+f.held.toNat+2 * b.length
 |[],f,i,h=>by simp [V5]
 | c::r,f,i,h=>by
   have h1:=zgP r (fmF f c) (i+1) (zsC h c);have h2:=zix h c;rw [jh]
   show zI (V5 (fmF f c) r).out+(V5 (fmF f c) r).held.toNat≤_
   omega
theorem zgX {s b:Str} (h:s.length≤70):(zZ (xK (fm0 s) b).out).length≤4 * b.length∧zI (zZ (xK (fm0 s) b).out)≤1000+2 * b.length:=by
 have hI:=zvd h;have h1:(xK (fm0 s) b).out.length≤4 * (0+b.length):=(ziw b _ 0 hI).on;have h2:zI (xK (fm0 s) b).out+(xK (fm0 s) b).held.toNat≤0+(fm0 s).held.toNat+2 * b.length:=zgP b _ 0 hI;have h3:=za5 (xK (fm0 s) b).out;have h4:=za4 (xK (fm0 s) b).out;have h5:(fm0 s).held<(fm0 s).mark.length:=hI.h1;have h6:(fm0 s).mark.length≤1000:=hI.ml;have h7:0≤(fm0 s).held:=hI.h0;omega
end Go.Proofs.YtkjepecoodjbmaaGreatDoor
namespace Go.Proofs.YtkjepecoodjbmaaGreatDoor
open Go Go.Sep Go.Ab
set_option maxRecDepth 100000
theorem zvh (s b:Str) (hneed:(s.length≤1000000∧b.length≤300000)∧Vt s=true):Spc Tryz.prog 216 [.v (.one (.p (.str s))),.v (.one (.p (.list .byte b)))] [] (.ret (.tup [(.one (.p (.list .prt ((Yk s b).1)))),(.one (.p (.int .i64 ((Yk s b).2))))])) []:=by
 obtain⟨⟨hs,hb⟩,hm⟩:=hneed
 have hl:s.length≤70:=by unfold Vt at hm;simp at hm;omega
 have hI0:=zvd hl;have hg:=zot s b ⟨0,⟨[],[],0,[],0⟩,[],⟨[],[],[],[]⟩,0⟩;have hle:=zgX (b:=b) hl
 have hN:fmN0 (fm0 s) b:=⟨0,hI0,by omega⟩
 generalize hr:Yk s b=r;unfold Yk at hr
 rw [hm,if_neg (by decide)] at hr
 refine spcG zh mixed Tryz.func216 (by kernel_rfl) { cfgF with rl:=[0],nr:=[8],keep:=some [0,1,4,5,6,7,8,10,11,12,23,24,25,30]} [zbq,zbp,Tn,Tm,zbn,zbm] (by kernel_rfl) ?_
 intro I X hI hX
 refine orcL ?_;go_invoke;refine orcS (by kernel_rfl) ?_
 simp only [zq,Nat.reduceAdd];generalize fm0 s=F0 at *;refine⟨?_,fun c=> ?_,fun _=>⟨?_,?_⟩⟩
 · subst hI;exact⟨by omega,hm⟩
 · subst hI;exact absurd c (by decide)
 · subst hI;exact hN
 rw [show I.hid F0=F0 by subst hI;rfl]
 rw [show I.hid (xK F0 b)=xK F0 b by subst hI;rfl]
 generalize xK F0 b=F at *
 rw [show I.hid (zZ F.out)=zZ F.out by subst hI;rfl]
 generalize zZ F.out=L at *
 refine zB hI zh mixed [zbq,zbp,Tn,Tm,zbn,zbm] hX [6,8,23,24,25] (fun(g:Nat × List Prt)=>match g with|(i,o)=>i≤L.length∧o=(L.take i).foldl prtS []) (fun(g:Nat × List Prt)=>match g with|(i,o)=>⟨[(6,.v (.one (.ptr 0 0))),(8,.v (.one (.row 1))),(23,.v (.one (.row 2))),(24,.v (.one (.p (.int .i64 ((I.len (α:=Evt) L)))))),(25,.v (.one (.p (.int .i64 i))))],[.abs (.fm F),.row .prt 32 o,.row .evt 34 L],62,none⟩) (fun(g:Nat × List Prt)=>match g with|(i,o)=>L.length - i) (0,[]) (by kernel_rfl) (by kernel_rfl) ?_ ?_
 · exact⟨jM _,rfl⟩
 rintro⟨i,o⟩ ⟨h1,h2⟩ A hA;simp only at hA h1 h2
 refine orcL ?_;go_invoke;refine orcS (by kernel_rfl) ?_
 simp only [zq,Nat.reduceAdd];subst hI;simp only [nrmA,nrmB,nrlB,reduceCtorEq];have hlo:=zrW (L.take i) [];rw [← h2,jv,ji] at hlo;have hb2:i<L.length→_→_:=fun h k=>zoA h hg k;have hs2:i<L.length→_:=fun h=>zfJ L ⟨0,⟨[],[],0,[],0⟩,[],⟨[],[],[],[]⟩,0⟩ h
 have hsum:i<L.length→(L.getD i ⟨0,⟨[],[],0,[],0⟩,[],⟨[],[],[],[]⟩,0⟩).bytes.length≤zI L:=fun h=>by
  refine Uk ?_
  rw [show L.getD i ⟨0,⟨[],[],0,[],0⟩,[],⟨[],[],[],[]⟩,0⟩=L[i] by simp [h]]
  exact List.getElem_mem h
 rw [← h2] at hb2 hs2
 have hgo:i<L.length→_:=fun h=>hA (i+1,prtS o (L.getD i ⟨0,⟨[],[],0,[],0⟩,[],⟨[],[],[],[]⟩,0⟩)) ⟨by simp only;omega,by simp only;rw [hs2 h]⟩ (by simp only;omega)
 have hend: ¬ i<L.length→L.foldl prtS []=o:=fun h=>by rw [h2,jq (by omega)]
 clear hg hs2 hA;generalize L.getD i ⟨0,⟨[],[],0,[],0⟩,[],⟨[],[],[],[]⟩,0⟩=x at *;simp only [Int.natCast_add,Int.natCast_one] at hgo;refine⟨fun c=> ?_,fun c=> ?_⟩
 · have hgo:=hgo (by omega)
   have hb2:=hb2 (by omega)
   have hsum:=hsum (by omega)
   by_cases k5:x.kind=5
   · rw [prtS,if_pos k5] at hgo
     (repeat' (first|refine ja ?_ ?_|intro _))<;>first|omega|exact jb|exact jc ‹False›|skip
     all_goals first
      |omega
      |(simp only [jr];omega)
      |exact hgo
      |exact absurd k5 ‹_›
   · by_cases k2:x.kind=2
     · obtain⟨z,p,hz,hp,hxb⟩:=hb2 k2
       have hxb:0<x.bytes.length:=by cases hq:x.bytes with|nil=>exact absurd hq hxb|cons _ _=>simp
       subst hz
       rw [show prtS (z++[p]) x=z++[⟨p.name,p.file,p.type,x.bytes⟩] by unfold prtS;rw [if_neg k5,if_pos k2];simp [hp]] at hgo
       have e1:(((z++[p]).length:Int) - 1).toNat=z.length:=by rw [jk,jr];omega
       have e2:(z++[p]).getD z.length ⟨[],[],[],[]⟩=p:=by simp
       have e3: ∀ q,(z++[p]).set z.length q=z++[q]:=fun q=>by simp
       simp only [e1,e2,e3,hp];simp only [jk,jr,ji];clear e1 e2 e3;rw [jk,jr] at hlo
       (repeat' (first|refine ja ?_ ?_|intro _))<;>first|omega|exact jb|exact jc ‹False›|skip
       all_goals first
        |omega
        |exact hgo
        |exact absurd k2 ‹_›
        |exact absurd ‹x.kind=5› k5
     · rw [prtS,if_neg k5,if_neg k2] at hgo
       (repeat' (first|refine ja ?_ ?_|intro _))<;>first|omega|exact jb|exact jc ‹False›|skip
       all_goals first
        |omega
        |exact hgo
        |exact absurd ‹x.kind=5› k5
        |exact absurd ‹x.kind=2› k2
 · have he:=hend (by omega)
   rw [he] at hr;subst hr
   (repeat' (first|refine ja ?_ ?_|intro _))<;>first|omega|exact jb|exact jc ‹False›|skip
   all_goals first
    |omega
    |(rw [if_pos ‹¬ rU F=0›];done)
    |(rw [if_neg (fun h=>h ‹rU F=0›)];done)
end Go.Proofs.YtkjepecoodjbmaaGreatDoor
namespace Go.Proofs.YtkjepecoodjbmaaGreatDoor
open Go Go.Sep Go.Ab
set_option maxRecDepth 100000
theorem zu9 (s:Str) (hneed:s.length≤140737488355328∧Vt s=false):Spc Tryz.prog 246 [.v (.one (.p (.str s)))] [] (.ret (.tup [(.one (.p (.val (.pointer none)))),(.one (.p (.int .i64 5)))])) []:=zva s hneed
def V8 (I:Alg) (args:List D) (hp:List HO):Option CT:=match args,hp with
 |[.v (.one (.p (.str s)))],[]=>(fun(s:Str)=>(some (.one ⟨I.hid (s.length≤140737488355328∧Vt s=false),(.ret (.tup [(.one (.p (.val (.pointer none)))),(.one (.p (.int .i64 5)))])),[]⟩):Option CT)) s
 |_,_=>none
theorem zgS:zx Tryz.prog 246 (V8 alg):=by
 intro args hp r h;unfold V8 at h
 split at h
 · cases h;exact fun hn=>zu9 _ hn
 · cases h
def zpJ:Know Tryz.prog:=⟨246,V8,zgS⟩
def zpI:Know Tryz.prog:=⟨246,fun I=>zy I (V8 I),zf zgS⟩
theorem zsA (b:Str) (hneed:False):Spc Tryz.prog 247 [.v (.one (.p (.val (.pointer none)))),.v (.one (.p (.list .byte b)))] [] (.ret (.v (.one (.row 0)))) [.row .evt 34 (([]:List Evt))]:=hneed.elim
def Xu (I:Alg) (args:List D) (hp:List HO):Option CT:=match args,hp with
 |[.v (.one (.p (.val (.pointer none)))),.v (.one (.p (.list .byte b)))],[]=>(fun(b:Str)=>(some (.one ⟨I.hid (False),(.ret (.v (.one (.row 0)))),[.row .evt 34 (I.hid (([]:List Evt)))]⟩):Option CT)) b
 |_,_=>none
theorem zc4:zx Tryz.prog 247 (Xu alg):=by
 intro args hp r h;unfold Xu at h
 split at h
 · cases h;exact fun hn=>zsA _ hn
 · cases h
def zmH:Know Tryz.prog:=⟨247,Xu,zc4⟩
def zmG:Know Tryz.prog:=⟨247,fun I=>zy I (Xu I),zf zc4⟩
theorem zvg (s b:Str) (hneed:(s.length≤1000000∧b.length≤300000)∧Vt s=false):Spc Tryz.prog 216 [.v (.one (.p (.str s))),.v (.one (.p (.list .byte b)))] [] (.ret (.tup [(.one (.p (.list .prt ((Yk s b).1)))),(.one (.p (.int .i64 ((Yk s b).2))))])) []:=by
 obtain⟨⟨hs,hb⟩,hm⟩:=hneed;generalize hr:Yk s b=r;unfold Yk at hr;rw [if_pos hm] at hr;subst hr
 refine spcG zh mixed Tryz.func216 (by kernel_rfl) { cfgF with rl:=[0],nr:=[8],keep:=some [0,1,4,5,6,7,8,10,11,12,23,24,25,30]} [zbq,zbp,zmH,zmG,Tn,Tm,zpJ,zpI] (by kernel_rfl) ?_
 intro I X hI hX
 refine orcL ?_;go_invoke;refine orcS (by kernel_rfl) ?_
 simp only [zq,Nat.reduceAdd];subst hI;simp only [nrmA,nrmB,nrlB,reduceCtorEq]
 exact⟨⟨by omega,hm⟩,fun _=>trivial,by decide⟩
def QW (I:Alg) (args:List D) (hp:List HO):Option CT:=match args,hp with
 |[.v (.one (.p (.str s))),.v (.one (.p (.list .byte b)))],[]=>(fun(s b:Str)=>(some (.one ⟨I.hid (s.length≤1000000∧b.length≤300000),(.ret (.tup [(.one (.p (.list .prt (I.hid ((Yk s b).1))))),(.one (.p (.int .i64 (I.hid ((Yk s b).2)))))])),[]⟩):Option CT)) s b
 |_,_=>none
theorem zk7:zx Tryz.prog 216 (QW alg):=by
 intro args hp r h;unfold QW at h;split at h<;>cases h
 rename_i s b;simp only [CT.Good,zi];intro hneed
 cases hm:Vt s with
 |true=>exact zvh s b ⟨hneed,hm⟩
 |false=>exact zvg s b ⟨hneed,hm⟩
def zsM:Know Tryz.prog:=⟨216,QW,zk7⟩
def zsL:Know Tryz.prog:=⟨216,fun I=>zy I (QW I),zf zk7⟩
end Go.Proofs.YtkjepecoodjbmaaGreatDoor
namespace Go.Proofs.YtkjepecoodjbmaaGreatDoor
open Go Go.Sep Go.Ab
def k5 (e:Evt):Bool:=decide (e.kind=5)
theorem zrq (s:Str):(zhS s).length≤40:=by
 unfold zhS
 split
 · decide
 · rw [jv];omega
theorem zmf (l:List Fld):(Zy l).1.file.length≤40:=by
 unfold Zy zrY zur
 repeat' split
 all_goals first|exact zrq _|(simp [prt0];done)|decide
def P5 (f:Fm):Prop:=((f.out.filter k5).length:Int)≤f.parts∧∀ e ∈ f.out,e.kind=5→e.part.file.length≤40
theorem Sj {f:Fm} (h:P5 f) {m:Str} {hd p co sk:Int} {bs:List Int} {ln:Option Ln} {fs:List Fld}:P5 ⟨m,hd,bs,p,ln,fs,f.parts,sk,co,f.out⟩:=h
theorem zcx {f:Fm} (h:P5 f) (e:Evt) (he:e.kind≠5) {m:Str} {hd p co sk:Int} {bs:List Int} {ln:Option Ln} {fs:List Fld}:P5 ⟨m,hd,bs,p,ln,fs,f.parts,sk,co,f.out++[e]⟩:=by
 refine⟨?_,fun x hx k=> ?_⟩
 · show(((f.out++[e]).filter k5).length:Int)≤f.parts
   rw [List.filter_append]
   have:[e].filter k5=[]:=by simp [k5,he]
   rw [this,List.append_nil];exact h.1
 · rcases List.mem_append.1 hx with hx|hx
   · exact h.2 x hx k
   · rw [List.mem_singleton.1 hx] at k;exact absurd k he
theorem XZ {f:Fm} (h:P5 f) (c:Int):P5 (xM f c):=zcx h (evF c) (show(4:Int)≠5 by decide)
theorem zr3 {f:Fm} (h:P5 f):P5 (wZ f):=by
 unfold wZ
 split
 · exact XZ h _
 · split
   · exact XZ h _
   · refine⟨?_,fun x hx k=> ?_⟩
     · show(((f.out++[evP (Zy f.fields).1]).filter k5).length:Int)≤f.parts+1
       rw [List.filter_append,jk];have:[evP (Zy f.fields).1].filter k5=[evP (Zy f.fields).1]:=rfl;rw [this,jr];have:=h.1;omega
     · rcases List.mem_append.1 (show x ∈ f.out++[evP (Zy f.fields).1] from hx) with hx|hx
       · exact h.2 x hx k
       · rw [List.mem_singleton.1 hx];exact zmf _
theorem zuw {f:Fm} (h:P5 f) (s:Str):P5 (tq f s):=by
 unfold tq
 split
 · exact zr3 h
 · split
   · exact XZ h _
   · split
     · exact XZ h _
     · exact Sj h
theorem p5_f {f:Fm} (h:P5 f) (c:UInt8):P5 (fmF f c):=by
 have hB:evB (tK f c)=⟨2,hd0,tK f c,prt0,0⟩:=rfl;unfold fmF
 split
 · unfold ug fmSk
   split
   · dsimp only
     split
     · exact zcx h _ (show(2:Int)≠5 by decide)
     · exact Sj h
   · dsimp only
     split
     · split
       · have:=zcx (zcx h (evB (tK f c)) (show(2:Int)≠5 by decide) (m:=f.mark) (hd:=f.held) (p:=f.pos) (co:=f.code) (sk:=f.skip) (bs:=f.bs) (ln:=f.ln) (fs:=f.fields)) evO (show(6:Int)≠5 by decide) (m:=f.mark) (hd:=((rY f.mark f.held.toNat c).2.1:Int)) (p:=1) (co:=f.code) (sk:=0) (bs:=f.bs) (ln:=f.ln) (fs:=f.fields)
         simpa using this
       · exact zcx h _ (show(6:Int)≠5 by decide)
     · exact Sj h
 · split
   · unfold wS
     repeat' split
     all_goals first
      |exact Sj h
      |exact zcx h _ (show(3:Int)≠5 by decide)
      |exact XZ h _
   · split
     · split
       · exact XZ h _
       · exact Sj h
     · split
       · split
         · exact XZ (Sj h) _
         · split
           · exact zuw (Sj h) _
           · exact Sj h
       · exact h
theorem zto: ∀ (b:Str) {f:Fm},P5 f→P5 (V5 f b)
 |[],_,h=>h
 |c::b,_,h=>zto b (p5_f h c)
theorem zsd (o:List Evt) (e:Evt):(uS o e).filter k5=o.filter k5++[e].filter k5:=by
 rcases List.eq_nil_or_concat o with rfl|⟨z,x,rfl⟩
 · rfl
 · rw [List.concat_eq_append,xU]
   split
   · rename_i h
     simp [k5,h.1,h.2,evB]
   · rw [List.filter_append]
theorem zkD: ∀ (l o:List Evt),(l.foldl uS o).filter k5=o.filter k5++l.filter k5
 |[],o=>by simp
 |e::l,o=>by rw [List.foldl_cons,zkD l,zsd,jo,← List.filter_append];rfl
theorem zsf (l:List Evt):(zZ l).filter k5=l.filter k5:=zkD l []
def prtZ (l:List Prt):Nat:=(l.map fun p=>p.bytes.length).sum
theorem zka (a b:List Prt):prtZ (a++b)=prtZ a+prtZ b:=by simp [prtZ]
theorem zrV {l:List Prt} {p:Prt} (h:p ∈ l):p.bytes.length≤prtZ l:=by
 induction l with
 |nil=>cases h
 | cons x r ih=>
   simp only [prtZ,List.map_cons,List.sum_cons]
   rcases List.mem_cons.1 h with rfl|h
   · omega
   · have:=ih h;unfold prtZ at this;omega
theorem zvZ (o:List Prt) (e:Evt) (he:k5 e=true→e.part.bytes=[]):prtZ (prtS o e)≤prtZ o+e.bytes.length:=by
 unfold prtS
 split
 · rename_i h
   rw [zka]
   have:prtZ [e.part]=0:=by simp [prtZ,he (by simp [k5,h])]
   omega
 · split
   · rcases List.eq_nil_or_concat o with rfl|⟨z,x,rfl⟩
     · simp
     · rw [List.concat_eq_append]
       simp only [List.getLast?_append,List.getLast?_singleton,Option.some_or,List.dropLast_concat,zka]
       simp [prtZ];omega
   · omega
theorem ztk: ∀ (l:List Evt) (o:List Prt),(∀ e ∈ l,k5 e=true→e.part.bytes=[])→prtZ (l.foldl prtS o)≤prtZ o+zI l
 |[],o,_=>by simp [zI]
 | e::l,o,h=>by
   have h1:=ztk l (prtS o e) fun x hx=>h x (List.mem_cons_of_mem _ hx);have h2:=zvZ o e (h e List.mem_cons_self);rw [List.foldl_cons];simp only [zI,List.map_cons,List.sum_cons] at h1 ⊢;omega
theorem zv0 (o:List Prt) (e:Evt):(prtS o e).map Prt.file=o.map Prt.file++([e].filter k5).map fun x=>x.part.file:=by
 unfold prtS
 split
 · rename_i h;simp [k5,h]
 · rename_i h
   have hk:k5 e=false:=by simp [k5,h]
   split
   · rcases List.eq_nil_or_concat o with rfl|⟨z,x,rfl⟩
     · simp [hk]
     · simp [hk]
   · simp [hk]
theorem ztl: ∀ (l:List Evt) (o:List Prt),(l.foldl prtS o).map Prt.file=o.map Prt.file++(l.filter k5).map fun x=>x.part.file
 |[],o=>by simp
 | e::l,o=>by
   rw [List.foldl_cons,ztl l,zv0,jo,← List.map_append,← List.filter_append];rfl
theorem zh3 (s b:Str):(Yk s b).1.length≤12∧(∀ p ∈ (Yk s b).1,p.file.length≤40)∧prtZ (Yk s b).1≤1000+2 * b.length:=by
 have h0:([]:List Prt).length≤12∧(∀ p ∈ ([]:List Prt),p.file.length≤40)∧prtZ ([]:List Prt)≤1000+2 * b.length:=⟨by decide,(fun p h=>by cases h),by simp [prtZ]⟩
 unfold Yk
 split
 · exact h0
 · rename_i hm
   split
   · exact h0
   · have hs:s.length≤70:=by
      unfold Vt at hm
      simp at hm
      omega
     have h5:P5 (xK (fm0 s) b):=zto b ⟨Int.le_refl 0,fun e h=>by cases h⟩
     have hp:=(ziw b _ 0 (zvd hs)).p0;have hle:=zgX (b:=b) hs;have hf:=ztl (zZ (xK (fm0 s) b).out) [];rw [zsf] at hf;simp only [List.map_nil,List.nil_append] at hf;dsimp only;refine⟨?_,fun p h=> ?_,?_⟩
     · have:=congrArg List.length hf
       rw [List.length_map,List.length_map] at this;have h1:=h5.1;have h2:(xK (fm0 s) b).parts≤12:=hp.2;omega
     · have h1:p.file ∈ ((xK (fm0 s) b).out.filter k5).map fun x=>x.part.file:=by rw [← hf];exact List.mem_map_of_mem h
       obtain⟨e,he,e2⟩:=List.mem_map.1 h1;rw [← e2]
       exact h5.2 e (List.mem_filter.1 he).1 (by simpa [k5] using (List.mem_filter.1 he).2)
     · have:=ztk (zZ (xK (fm0 s) b).out) [] fun e he hk=> ?_
       · have h1:=hle.2
         have h2:prtZ []=0:=rfl;omega
       · obtain⟨i,hi,rfl⟩:=List.getElem_of_mem he
         have h1:=(zot s b ⟨0,hd0,[],prt0,0⟩ i hi).2;rw [jH,jm hi] at h1
         exact h1 (by simpa [k5] using hk)
end Go.Proofs.YtkjepecoodjbmaaGreatDoor
namespace Go.Proofs.YtkjepecoodjbmaaGreatDoor
open Go Go.Sep Go.Ab
set_option maxRecDepth 100000
def cfgG:Cfg:= { sl:=UA.sl++[⟨50,1000003,.byte,none⟩,⟨120,4,.fld,none⟩,⟨120,6,.byte,some 5⟩]}
def VH (I:Alg) (args:List D) (hp:List HO):Option CT:=match args,hp with
 |[.v (.one (.p (.int .i64 st))),.v (.one (.p (.str b)))],[]=>(fun(st:Int) (b:Str)=>(some (.one ⟨I.hid (b.length≤1000000),(.ret (.v (.agg [(.p (.int .i64 st)),(.p (.list .fld (I.hid (([]:List Fld))))),(.p (.list .byte b))]))),[]⟩):Option CT)) st b
 |_,_=>none
theorem zgp:zx Tryz.prog 84 (VH alg):=by
 intro args hp r h;unfold VH at h;split at h<;>cases h
 rename_i st b;simp only [CT.Good,zi];intro hneed
 refine spcG zh mixed Tryz.func84 (by kernel_rfl) { cfgG with keep:=some [0,1,4]} [] (by kernel_rfl) ?_
 intro I X hI hX
 refine orcL ?_;go_invoke;refine orcS (by kernel_rfl) ?_
 simp only [zq,Nat.reduceAdd];subst hI;simp only [nrmA,nrmB,nrlB,reduceCtorEq,V0.agg.injEq]
def vY:Know Tryz.prog:=⟨84,VH,zgp⟩
def vX:Know Tryz.prog:=⟨84,fun I=>zy I (VH I),zf zgp⟩
def VK (I:Alg) (args:List D) (hp:List HO):Option CT:=match args,hp with
 |[.v (.agg [(.p (.str m)),(.p (.str t)),(.p (.int .i64 mi)),(.p (.list .fld f)),(.p (.int .i64 le))]),.v (.one (.p (.list .byte body)))],[]=>(fun(m t:Str) (mi:Int) (f:List Fld) (le:Int) (body:Str)=>(some (.one ⟨I.hid (FOk f∧body.length≤100000),(.ret (.tup [(.one (.p (.list .prt (I.hid ((qE f body).1))))),(.one (.p (.int .i64 (I.hid ((qE f body).2)))))])),[]⟩):Option CT)) m t mi f le body
 |_,_=>none
set_option maxHeartbeats 1000000 in
theorem zgq:zx Tryz.prog 175 (VK alg):=by
 intro args hp r h;unfold VK at h;split at h<;>cases h
 rename_i m t mi f le body
 revert f;intro(f:List Fld)
 simp only [CT.Good,zi];intro hneed;obtain⟨hf,hb⟩:=hneed;have hv:=zee hf ZM;have hp:=zfO (oneT f ZM).1;have hg:=zkM hp.2 bndT;have hpl:=hp.1;clear hp;generalize hr:qE f body=r;unfold qE at hr;unfold oneT at hr hv hg hpl
 refine spcG zh mixed Tryz.func175 (by kernel_rfl) { cfgG with rl:=[0],keep:=some [0,1,2,4,5,6,7,8,9,10,11]} [U8,U7,vI,vH,YG,YF,zsM,zsL] (by kernel_rfl) ?_
 intro I X hI hX
 refine orcL ?_;go_invoke;refine orcS (by kernel_rfl) ?_
 simp only [zq,Nat.reduceAdd];rw [show([99,111,110,116,101,110,116,45,116,121,112,101]:Str)=ZM from rfl,show([98,111,117,110,100,97,114,121]:Str)=bndT from rfl,show([109,117,108,116,105,112,97,114,116,47,102,111,114,109,45,100,97,116,97]:Str)=zwj from rfl]
 have hc:ZM.length≤1000000:=by decide
 have hh: ∀ {α:Type} (y:α),I.hid y=y:=fun y=>by subst hI;rfl
 simp only [hh];generalize oneF (valsF f ZM)=o at *;generalize wz o.1=M at *;generalize getP M.1.params bndT=g at *;generalize Yk g.1 body=Y at *;subst hI;simp only [nrmA,nrmB,nrlB,reduceCtorEq,V0.agg.injEq]
 (repeat' (first|refine ja ?_ ?_|intro _))<;>first|omega|exact jb|exact jc ‹False›|skip
 all_goals first
  |omega
  |assumption
  |exact hf.1
  |(exact(hf.2 _ ‹_›).1)
  |(exact(hf.2 _ ‹_›).2)
  |(((repeat(first|rewrite [if_pos (by first|omega|assumption|(simp only [*,or_self,or_true,true_or,or_false,false_or,jf,jg,jd,je,and_self,and_true,true_and];done)|(simp only [*];omega)|(simp [*];done)|(simp [*];omega))] at hr|rewrite [if_neg (by first|omega|assumption|(simp only [*,or_self,or_true,true_or,or_false,false_or,jf,jg,jd,je,and_self,and_true,true_and];done)|(simp only [*];omega)|(simp [*];done)|(simp [*];omega))] at hr)));subst hr;rfl)
  |(simp_all;done)
def VJ:Know Tryz.prog:=⟨175,VK,zgq⟩
def VI:Know Tryz.prog:=⟨175,fun I=>zy I (VK I),zf zgq⟩
theorem ztw (q:Sto) (e:Ent):q.n≤(wsS q e).n∧(wsS q e).n≤q.n+1:=zm0 _ _ _ _
def QI (I:Alg) (args:List D) (hp:List HO):Option CT:=match args,hp with
 |[.v (.one (.ptr 0 0)),.v (.agg [(.p (.str pn)),(.p (.str pf)),(.p (.str pt)),(.p (.nl pb))])],[.obj 50 [(.ptr 1 0),(.ptr 2 0),(.ptr 3 0),(.ptr 4 0),(.ptr 5 0)],.pack [.obj 54 [(.ptr 1 0),(.ptr 2 0)],.pack [.obj 124 [(.row 1),(.p (.int .i64 n))],.row .upl 81 l],.pack [.obj 156 [(.row 1),(.p (.int .i64 s))],.row .byte 5 b]],.abs (.cn c0),.abs (.cn c1),.abs (.cn c2),.abs (.cn c3)]=>(fun(l:List Upl) (n:Int) (b:Str) (s:Int) (c0 c1 c2 c3:Cn) (pn pf pt pb:Str)=>(some (.one ⟨I.hid (zK l n∧n≤200000 - 1∧b.length≤100000∧pf.length≤100000∧pb.length≤100000),(.ret (.tup [(.one (.p (.int .i64 (I.hid ((if zej ⟨l,n,b,s⟩ ⟨pn,pf,pt,pb⟩=0 then n+1 else 0)))))),(.one (.p (.int .i64 (I.hid ((zej ⟨l,n,b,s⟩ ⟨pn,pf,pt,pb⟩))))))])),[.obj 50 [(.ptr 1 0),(.ptr 2 0),(.ptr 3 0),(.ptr 4 0),(.ptr 5 0)],.pack [.obj 54 [(.ptr 1 0),(.ptr 2 0)],.pack [.obj 124 [(.row 1),(.p (.int .i64 (I.hid ((sO ⟨l,n,b,s⟩ ⟨pn,pf,pt,pb⟩).n))))],.row .upl 81 (I.hid ((sO ⟨l,n,b,s⟩ ⟨pn,pf,pt,pb⟩).l))],.pack [.obj 156 [(.row 1),(.p (.int .i64 (I.hid ((sO ⟨l,n,b,s⟩ ⟨pn,pf,pt,pb⟩).s))))],.row .byte 5 (I.hid ((sO ⟨l,n,b,s⟩ ⟨pn,pf,pt,pb⟩).b))]],.abs (.cn c0),.abs (.cn c1),.abs (.cn c2),.abs (.cn c3)]⟩):Option CT)) l n b s c0 c1 c2 c3 pn pf pt pb
 |_,_=>none
set_option maxHeartbeats 1000000 in
theorem zkO:zx Tryz.prog 177 (QI alg):=by
 intro args hp r h;unfold QI at h;split at h<;>cases h
 rename_i pn pf pt pb n l s b c0 c1 c2 c3
 revert l;intro(l:List Upl)
 simp only [CT.Good,zi];intro hneed;obtain⟨hs,hn,hb,hf,hp⟩:=hneed
 have hl:(zmE++pf).length≤1000000:=by rw [jk];simp [zmE];omega
 have h1:=zah hs b (tJ ⟨l,n,b,s⟩ ⟨pn,pf,pt,pb⟩);have h2:=zm0 l n b (tJ ⟨l,n,b,s⟩ ⟨pn,pf,pt,pb⟩);have h3:=Zm (l:=l) (n:=n) (tJ ⟨l,n,b,s⟩ ⟨pn,pf,pt,pb⟩) hb;generalize hc:zej ⟨l,n,b,s⟩ ⟨pn,pf,pt,pb⟩=c;generalize hq:sO ⟨l,n,b,s⟩ ⟨pn,pf,pt,pb⟩=q';unfold zej apCd wsC wsS tJ creE apE at hc;unfold sO apCd apQ wsC wsS tJ creE apE zbX at hq;unfold tJ creE at h1 h2 h3
 refine spcG zh mixed Tryz.func177 (by kernel_rfl) { cfgG with keep:=some [0,1,3,4,5,6,7,8]} [TN,TM,xB,xA,wF,wE] (by kernel_rfl) ?_
 intro I X hI hX
 refine orcL ?_;go_invoke;refine orcS (by kernel_rfl) ?_
 simp only [zq,Nat.reduceAdd];rw [show([102,105,108,101,110,97,109,101,32]:Str)=zmE from rfl];subst hI;simp only [nrmA,nrmB,nrlB,reduceCtorEq,V0.agg.injEq,HO.pack.injEq,HO.obj.injEq];dsimp only at hc hq h1 h2 h3
 have hlf:(zmE.length:Int)+pf.length≤1000000:=by rw [jk] at hl;omega
 obtain⟨nm,hnm⟩: ∃ nm,nm=zmE++pf:=⟨_,rfl⟩;simp only [← hnm] at hc hq h1 h2 h3 hl ⊢;clear hnm
 by_cases hw:wrtC l n b ⟨1,n+1,(pb.length:Int),nm⟩=0
 · simp only [hw,ne_eq,jf,jg,if_true,if_false] at hc hq ⊢
   generalize wrtL l n b ⟨1,n+1,(pb.length:Int),nm⟩=l1 at *;generalize wrtN l n b ⟨1,n+1,(pb.length:Int),nm⟩=n1 at *;generalize wrtB l n b ⟨1,n+1,(pb.length:Int),nm⟩=b1 at *
   by_cases hg:apG l1 (n+1) 0=true
   · simp only [hg,if_true,je,jf,jg,if_false,show ¬ (17:Int)=0 by decide] at hc hq ⊢
     subst hc hq
     (repeat' (first|refine ja ?_ ?_|intro _))<;>first|omega|exact jb|exact jc ‹False›|skip
     all_goals first|omega|assumption|rfl|trace_state
   · simp only [hg,if_false,jd] at hc hq ⊢
     have h4:=zah h1 b1 ⟨2,n+1,0,pb⟩
     have h5:=Zc (l:=l1) (n:=n1) (b:=b1) (e:=⟨2,n+1,0,pb⟩) (show(2:Int)≠1 by decide)
     have h6:=Zm (l:=l1) (n:=n1) (b:=b1) ⟨2,n+1,0,pb⟩ h3
     by_cases ha:wrtC l1 n1 b1 ⟨2,n+1,0,pb⟩=0
     · simp only [ha,jf,if_false,if_true] at hc hq ⊢
       subst hc hq
       (repeat' (first|refine ja ?_ ?_|intro _))<;>first|omega|exact jb|exact jc ‹False›|skip
       all_goals first|omega|assumption|rfl|trace_state
     · simp only [ha,jg,if_false,if_true] at hc hq ⊢
       subst hc hq
       (repeat' (first|refine ja ?_ ?_|intro _))<;>first|omega|exact jb|exact jc ‹False›|skip
       all_goals first|omega|assumption|rfl|trace_state
 · simp only [hw,ne_eq,jf,jg,if_true,if_false] at hc hq ⊢
   subst hc hq
   (repeat' (first|refine ja ?_ ?_|intro _))<;>first|omega|exact jb|exact jc ‹False›|skip
   all_goals first|omega|assumption|rfl|contradiction|trace_state
def QH:Know Tryz.prog:=⟨177,QI,zkO⟩
def QG:Know Tryz.prog:=⟨177,fun I=>zy I (QI I),zf zkO⟩
end Go.Proofs.YtkjepecoodjbmaaGreatDoor
