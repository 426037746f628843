/- Texts of this proof, one behind the other: ParA ParC ParD FrmB LnA FrmC FrmD FldP FrmE EvJ FrmF FrmG FrmH FrmI FrmS FrmT. -/
import Derived.Test.YtknaogelmckimaaGreatDoorMc
set_option linter.all false
namespace Go.Proofs.YtknaogelmckimaaGreatDoor
open Go Go.Sep Go.Ab
set_option maxRecDepth 100000
theorem zew (s:Str):Spc Tryz.prog 145 [.v (.one (.p (.str s))),.v (.one (.p (.str ([32,9]))))] [] (.ret (.v (.one (.p (.str ((skS s))))))) []:=by
  refine Spc.of_below ⟨_,Tryz.func145,by kernel_rfl,by kernel_rfl⟩ fun S bs w vs _ hM=> ?_
  obtain⟨v,r,rfl⟩: ∃ v r,vs=v::r:=by cases vs with|nil=>exact hM.elim|cons v r=>exact⟨v,r,rfl⟩
  obtain⟨h1,hM⟩:=hM
  obtain⟨v2,r2,rfl⟩: ∃ v r2,r=v::r2:=by cases r with|nil=>exact hM.elim|cons v r=>exact⟨v,r,rfl⟩
  obtain⟨h2,hM⟩:=hM
  obtain rfl:r2=[]:=by cases r2 with|nil=>rfl|cons v r=>exact hM.elim
  cases h1 with
  | str _ hl1=>
    cases h2 with
    | str _ hl2=>
      refine⟨.string (Sep.S (skS s)),.str _ (Nat.le_trans (xE _) hl1),?_⟩
      exact Tryz.strings_TrimLeft_laid (Sep.S s) (Sep.S [32,9]) w (by decide) (fun j b hb=>by
        have:=List.mem_of_getElem? hb
        rcases(by simpa [Sep.S] using this:b=32∨b=9) with rfl|rfl<;>decide)
def tH (I:Alg) (args:List D) (hp:List HO):Option CT:=match args,hp with
  |[.v (.one (.p (.str s))),.v (.one (.p (.str ([32,9]))))],[]=>(fun(s:Str)=>(some (.one ⟨I.hid (True),(.ret (.v (.one (.p (.str (I.hid ((skS s)))))))),[]⟩):Option CT)) s
  |_,_=>none
theorem WL:zy Tryz.prog 145 (tH alg):=by
  intro args hp r h
  unfold tH at h
  split at h
  · cases h;exact fun hn=>zew _
  · cases h
def zaZ:Know Tryz.prog:=⟨145,tH,WL⟩
def zaY:Know Tryz.prog:=⟨145,fun I=>zA I (tH I),zf WL⟩
theorem zi0 (b:Bool) (c:Int) (hneed:b=false):Spc Tryz.prog 137 [.v (.one (.p (.bool b))),.v (.one (.p (.int .i64 c)))] [] (.ret (.tup [])) []:=by
  refine spcG zi mixed Tryz.func137 (by kernel_rfl) { keep:=some [0,1]} [] (by kernel_rfl) ?_
  intro I X hI hX
  refine zh (.br b (.fin (.pan (.ifc 163 .false [(.int .i64 c)])) []) (.fin (.ret (.tup [])) [])) (by kernel_rfl) ?_
  simp only [zn]
  subst hI
  simp only [nrmA,nrmB]
  (repeat' (first|refine And.intro ?_ ?_|intro _))<;>first|omega|exact True.intro|exact False.elim ‹False›|skip
  all_goals simp_all
theorem ziZ (b:Bool) (c:Int) (hneed:b=true):Spc Tryz.prog 137 [.v (.one (.p (.bool b))),.v (.one (.p (.int .i64 c)))] [] (.pan (.ifc 163 false [(.int .i64 c)])) []:=by
  refine spcG zi mixed Tryz.func137 (by kernel_rfl) { keep:=some [0,1]} [] (by kernel_rfl) ?_
  intro I X hI hX
  refine zh (.br b (.fin (.pan (.ifc 163 .false [(.int .i64 c)])) []) (.fin (.ret (.tup [])) [])) (by kernel_rfl) ?_
  simp only [zn]
  subst hI
  simp only [nrmA,nrmB]
  (repeat' (first|refine And.intro ?_ ?_|intro _))<;>first|omega|exact True.intro|exact False.elim ‹False›|skip
  all_goals simp_all
def X6 (I:Alg) (args:List D) (hp:List HO):Option CT:=match args,hp with
  |[.v (.one (.p (.bool b))),.v (.one (.p (.int .i64 c)))],[]=>(fun(b:Bool) (c:Int)=>(some (.br (I.hid (b)) (.one ⟨I.hid (b=true),(.pan (.ifc 163 false [(.int .i64 c)])),[]⟩) (.one ⟨I.hid (b=false),(.ret (.tup [])),[]⟩)):Option CT)) b c
  |_,_=>none
theorem zcu:zy Tryz.prog 137 (X6 alg):=by
  intro args hp r h
  unfold X6 at h
  split at h
  · cases h;exact⟨fun _ hn=>ziZ _ _ hn,fun _ hn=>zi0 _ _ hn⟩
  · cases h
def xu:Know Tryz.prog:=⟨137,X6,zcu⟩
def xq:Know Tryz.prog:=⟨137,fun I=>zA I (X6 I),zf zcu⟩
theorem zg9 (s:Str):Spc Tryz.prog 133 [.v (.one (.ptr 0 0))] [.pack [.obj 167 [(.p (.str s))]]] (.ret (.tup [])) [.pack [.obj 167 [(.p (.str ((skS s))))]]]:=by
  refine spcG zi mixed Tryz.func133 (by kernel_rfl) { keep:=some [0]} [zaZ,zaY] (by kernel_rfl) ?_
  intro I X hI hX
  refine zh (.need (I.hid (α:=(Prop)) True) (.fin (.ret (.tup [])) [(.pack [(.obj 167 [(.p (.str (I.hid (α:=Str) (skS s))))])])])) (by kernel_rfl) ?_
  simp only [zn]
  subst hI
  simp only [nrmA,nrmB,nrlB,reduceCtorEq,HO.pack.injEq,HO.obj.injEq]
  try trivial
def qB (I:Alg) (args:List D) (hp:List HO):Option CT:=match args,hp with
  |[.v (.one (.ptr 0 0))],[.pack [.obj 167 [(.p (.str s))]]]=>(fun(s:Str)=>(some (.one ⟨I.hid (True),(.ret (.tup [])),[.pack [.obj 167 [(.p (.str (I.hid ((skS s)))))]]]⟩):Option CT)) s
  |_,_=>none
theorem Us:zy Tryz.prog 133 (qB alg):=by
  intro args hp r h
  unfold qB at h
  split at h
  · cases h;exact fun hn=>zg9 _
  · cases h
def qA:Know Tryz.prog:=⟨133,qB,Us⟩
def qy:Know Tryz.prog:=⟨133,fun I=>zA I (qB I),zf Us⟩
theorem zkn (s:Str) (k:Int) (hneed:0≤k∧k≤255):Spc Tryz.prog 135 [.v (.one (.ptr 0 0)),.v (.one (.p (.int .u8 k)))] [.pack [.obj 167 [(.p (.str s))]]] (.ret (.v (.one (.p (.bool ((zI s (UInt8.ofNat k.toNat)))))))) [.pack [.obj 167 [(.p (.str ((if zI s (UInt8.ofNat k.toNat)=true then s.drop 1 else s))))]]]:=by
  generalize hr:zI s (UInt8.ofNat k.toNat)=r
  refine spcG zi mixed Tryz.func135 (by kernel_rfl) { keep:=some [0,1,4,5]} [] (by kernel_rfl) ?_
  intro I X hI hX
  refine zh (let y0:=I.ieq (I.b2i (I.get (α:=UInt8) s 0 0)) k;let y1:HO:=.pack [(.obj 167 [(.p (.str s))])];.br (I.bnot (I.seq s ([]:Str))) (.need (I.inb 0 (I.len (α:=UInt8) s)) (.br y0 (.need (I.cutb 1 (I.len (α:=UInt8) s) (I.len (α:=UInt8) s)) (.fin (.ret (.v (.one (.p (.bool y0))))) [(.pack [(.obj 167 [(.p (.str (I.cut (α:=UInt8) s 1 (I.len (α:=UInt8) s))))])])])) (.fin (.ret (.v (.one (.p (.bool y0))))) [y1]))) (.fin (.ret (.v (.one (.p (.bool Bool.false))))) [y1])) (by kernel_rfl) ?_
  simp only [zn]
  subst hI
  simp only [nrmA,nrmB,nrlB,reduceCtorEq,HO.pack.injEq,HO.obj.injEq]
  have hk:((UInt8.ofNat k.toNat).toNat:Int)=k:=by rw [UInt8.toNat_ofNat',Nat.mod_eq_of_lt (by omega)];omega
  have hk2: ∀ c:UInt8,(c.toNat:Int)=k↔c=UInt8.ofNat k.toNat:=fun c=>⟨fun h=>by rw [← h];simp,fun h=>by rw [h];exact hk⟩
  rw [drop1]
  have hs:s=[]↔s.length=0:=List.length_eq_zero_iff.symm
  rw [hs]
  cases r with
  | true=>
    obtain⟨h1,h2⟩:=YT.1 hr
    have hkk:=(hk2 _).2 h2
    rw [hkk]
    (repeat' (first|refine And.intro ?_ ?_|intro _))<;>first|omega|exact True.intro|exact False.elim ‹False›|skip
    all_goals first|omega|(simp;done)|(simp_all;done)
  | false=>
    have h1:0<s.length→¬ ((s.getD 0 0).toNat:Int)=k:=fun h q=>by rw [YT.2 ⟨h,(hk2 _).1 q⟩] at hr;cases hr
    (repeat' (first|refine And.intro ?_ ?_|intro _))<;>first|omega|exact True.intro|exact False.elim ‹False›|skip
    all_goals first|omega|(simp;done)|(exfalso;exact h1 (by omega) ‹_›)|(have:=h1 (by omega);simp_all;done)|trace_state
def X4 (I:Alg) (args:List D) (hp:List HO):Option CT:=match args,hp with
  |[.v (.one (.ptr 0 0)),.v (.one (.p (.int .u8 k)))],[.pack [.obj 167 [(.p (.str s))]]]=>(fun(s:Str) (k:Int)=>(some (.one ⟨I.hid (0≤k∧k≤255),(.ret (.v (.one (.p (.bool (I.hid ((zI s (UInt8.ofNat k.toNat))))))))),[.pack [.obj 167 [(.p (.str (I.hid ((if zI s (UInt8.ofNat k.toNat)=true then s.drop 1 else s)))))]]]⟩):Option CT)) s k
  |_,_=>none
theorem zcr:zy Tryz.prog 135 (X4 alg):=by
  intro args hp r h
  unfold X4 at h
  split at h
  · cases h;exact fun hn=>zkn _ _ hn
  · cases h
def qx:Know Tryz.prog:=⟨135,X4,zcr⟩
def qw:Know Tryz.prog:=⟨135,fun I=>zA I (X4 I),zf zcr⟩
theorem zki (s:Str) (hneed:s.length≤1000000∧¬ tokS s=[]):Spc Tryz.prog 134 [.v (.one (.ptr 0 0))] [.pack [.obj 167 [(.p (.str s))]]] (.ret (.v (.one (.p (.str ((tokS s))))))) [.pack [.obj 167 [(.p (.str ((tokE s))))]]]:=by
  obtain⟨hl,hne⟩:=hneed
  refine spcG zi mixed Tryz.func134 (by kernel_rfl) { keep:=some [0,2,3,4]} [tJ,Zv,xu,xq] (by kernel_rfl) ?_
  intro I X hI hX
  refine zh (.code 0 [1,1,0,0] ⟨[(3,(.v (.one (.p (.int .i64 0))))),(2,(.v (.one (.p (.str ([]:Str)))))),(0,(.v (.one (.ptr 0 0))))],[(.pack [(.obj 167 [(.p (.str s))])])],42,none⟩) (by kernel_rfl) ?_
  simp only [zn]
  refine zu hI zi mixed [tJ,Zv,xu,xq] hX [0,3] (fun(i:Nat)=>i≤(tokS s).length) (fun(i:Nat)=>⟨[(0,.v (.one (.ptr 0 0))),(3,.v (.one (.p (.int .i64 i))))],[.pack [.obj 167 [(.p (.str s))]]],42,none⟩) (fun(i:Nat)=>s.length - i) 0 (by kernel_rfl) (by kernel_rfl) ?_ ?_
  · exact Nat.zero_le _
  rintro i h1 A hA
  refine zh (let y0:HO:=.pack [(.obj 167 [(.p (.str (I.cut (α:=UInt8) s (Int.ofNat i) (I.len (α:=UInt8) s))))])];let y7:=I.cut (α:=UInt8) s 0 (Int.ofNat i);let y1:=I.seq y7 ([]:Str);let y2:=I.b2i (I.get (α:=UInt8) s 0 (Nat.cast i));let y3:=I.cutb (Int.ofNat i) (I.len (α:=UInt8) s) (I.len (α:=UInt8) s);let y4:=I.cutb 0 (Int.ofNat i) (I.len (α:=UInt8) s);let y5:=I.hid (α:=(Prop)) (Eq y1 Bool.false);let y6:=I.hid (α:=(Prop)) (Eq y1 Bool.true);.br (I.ilt (Nat.cast i) (I.len (α:=UInt8) s)) (.need (I.inb (Nat.cast i) (I.len (α:=UInt8) s)) (.need (I.hid (α:=(Prop)) (And (LE.le (0:Int) y2) (LE.le y2 (255:Int)))) (.br (I.hid (α:=Bool) (tokB y2)) (.need (I.inr Go.IntKind.i64 (I.add (Nat.cast i) 1)) (.need (A ⟨[(0,(.v (.one (.ptr 0 0)))),(3,(.v (.one (.p (.int .i64 (I.add (Nat.cast i) 1))))))],[(.pack [(.obj 167 [(.p (.str s))])])],42,none⟩) .qed)) (.need y4 (.need y3 (.br (I.hid (α:=Bool) y1) (.need y6 (.fin (.pan (.ifc 163 .false [(.int .i64 5)])) [y0])) (.need y5 (.fin (.ret (.v (.one (.p (.str y7))))) [y0])))))))) (.need y4 (.need y3 (.br (I.hid (α:=Bool) y1) (.need y6 (.fin (.pan (.ifc 163 .false [(.int .i64 5)])) [y0])) (.need y5 (.fin (.ret (.v (.one (.p (.str y7))))) [y0])))))) (by kernel_rfl) ?_
  simp only [zn]
  subst hI
  simp only [nrmA,nrmB,nrlB,reduceCtorEq,HO.pack.injEq,HO.obj.injEq]
  have hb:=xO (s.getD i 0)
  have hs:=Ti (p:=isTk) (s:=s) h1
  have hle:=yP s
  have ht:=WN isTk s
  have hd:=drop_tw isTk s
  unfold isTk at hs
  change _↔i<(tokS s).length at hs
  change s.take (tokS s).length=tokS s at ht
  change s.drop (tokS s).length=tokE s at hd
  have hlen:=ziw s
  have hend: ¬ i<(tokS s).length→i=(tokS s).length:=fun h=>by omega
  generalize s.getD i 0=x at *
  have hgo:i<(tokS s).length→A ⟨[(0,.v (.one (.ptr 0 0))),(3,.v (.one (.p (.int .i64 (((i:Int)+1))))))],[.pack [.obj 167 [(.p (.str s))]]],42,none⟩:=fun h=>hA (i+1) (by omega) (by omega)
  by_cases hi:i<(tokS s).length
  · have hi2:=hs.2 hi
    clear hs hend ht hd hA
    (repeat' (first|refine And.intro ?_ ?_|intro _))<;>first|omega|exact True.intro|exact False.elim ‹False›|skip
    all_goals first
      |omega
      |exact hgo hi
      |(exfalso;simp_all;done)
  · have hx:i<s.length→tokB (x.toNat:Int)=true→False:=fun a b=>hi (hs.1 ⟨a,b⟩)
    have hi2:=hend hi
    clear hs hend hA hgo
    subst hi2
    rw [ht]
    have hcut:List.take (s.length - (tokS s).length) (List.drop (tokS s).length s)=tokE s:=by rw [hd];exact List.take_of_length_le (by omega)
    rw [hcut]
    (repeat' (first|refine And.intro ?_ ?_|intro _))<;>first|omega|exact True.intro|exact False.elim ‹False›|skip
    all_goals first
      |omega
      |(exfalso;exact hx (by omega) ‹_›)
      |(exfalso;exact hne ‹_›)
      |(simp [hne];done)
theorem zkh (s:Str) (hneed:s.length≤1000000∧tokS s=[]):Spc Tryz.prog 134 [.v (.one (.ptr 0 0))] [.pack [.obj 167 [(.p (.str s))]]] (.pan (.ifc 163 false [(.int .i64 5)])) [.pack [.obj 167 [(.p (.str ((tokE s))))]]]:=by
  obtain⟨hl,hne⟩:=hneed
  refine spcG zi mixed Tryz.func134 (by kernel_rfl) { keep:=some [0,2,3,4]} [tJ,Zv,xu,xq] (by kernel_rfl) ?_
  intro I X hI hX
  refine zh (.code 0 [1,1,0,0] ⟨[(3,(.v (.one (.p (.int .i64 0))))),(2,(.v (.one (.p (.str ([]:Str)))))),(0,(.v (.one (.ptr 0 0))))],[(.pack [(.obj 167 [(.p (.str s))])])],42,none⟩) (by kernel_rfl) ?_
  simp only [zn]
  refine zu hI zi mixed [tJ,Zv,xu,xq] hX [0,3] (fun(i:Nat)=>i≤(tokS s).length) (fun(i:Nat)=>⟨[(0,.v (.one (.ptr 0 0))),(3,.v (.one (.p (.int .i64 i))))],[.pack [.obj 167 [(.p (.str s))]]],42,none⟩) (fun(i:Nat)=>s.length - i) 0 (by kernel_rfl) (by kernel_rfl) ?_ ?_
  · exact Nat.zero_le _
  rintro i h1 A hA
  refine zh (let y0:HO:=.pack [(.obj 167 [(.p (.str (I.cut (α:=UInt8) s (Int.ofNat i) (I.len (α:=UInt8) s))))])];let y7:=I.cut (α:=UInt8) s 0 (Int.ofNat i);let y1:=I.seq y7 ([]:Str);let y2:=I.b2i (I.get (α:=UInt8) s 0 (Nat.cast i));let y3:=I.cutb (Int.ofNat i) (I.len (α:=UInt8) s) (I.len (α:=UInt8) s);let y4:=I.cutb 0 (Int.ofNat i) (I.len (α:=UInt8) s);let y5:=I.hid (α:=(Prop)) (Eq y1 Bool.false);let y6:=I.hid (α:=(Prop)) (Eq y1 Bool.true);.br (I.ilt (Nat.cast i) (I.len (α:=UInt8) s)) (.need (I.inb (Nat.cast i) (I.len (α:=UInt8) s)) (.need (I.hid (α:=(Prop)) (And (LE.le (0:Int) y2) (LE.le y2 (255:Int)))) (.br (I.hid (α:=Bool) (tokB y2)) (.need (I.inr Go.IntKind.i64 (I.add (Nat.cast i) 1)) (.need (A ⟨[(0,(.v (.one (.ptr 0 0)))),(3,(.v (.one (.p (.int .i64 (I.add (Nat.cast i) 1))))))],[(.pack [(.obj 167 [(.p (.str s))])])],42,none⟩) .qed)) (.need y4 (.need y3 (.br (I.hid (α:=Bool) y1) (.need y6 (.fin (.pan (.ifc 163 .false [(.int .i64 5)])) [y0])) (.need y5 (.fin (.ret (.v (.one (.p (.str y7))))) [y0])))))))) (.need y4 (.need y3 (.br (I.hid (α:=Bool) y1) (.need y6 (.fin (.pan (.ifc 163 .false [(.int .i64 5)])) [y0])) (.need y5 (.fin (.ret (.v (.one (.p (.str y7))))) [y0])))))) (by kernel_rfl) ?_
  simp only [zn]
  subst hI
  simp only [nrmA,nrmB,nrlB,reduceCtorEq,HO.pack.injEq,HO.obj.injEq]
  have hb:=xO (s.getD i 0)
  have hs:=Ti (p:=isTk) (s:=s) h1
  have hd:=drop_tw isTk s
  unfold isTk at hs
  change _↔i<(tokS s).length at hs
  change s.drop (tokS s).length=tokE s at hd
  rw [hne] at h1 hs hd
  simp only [List.length_nil] at h1 hs hd
  have h0:i=0:=by omega
  subst h0
  generalize s.getD 0 0=x at *
  have hx:0<s.length→tokB (x.toNat:Int)=true→False:=fun a b=>absurd (hs.1 ⟨a,b⟩) (by omega)
  have hcut:List.take (s.length - 0) (List.drop 0 s)=tokE s:=by rw [hd];exact List.take_of_length_le (by have:=xU s;omega)
  clear hs hA
  simp only [Int.toNat_natCast,List.take_zero,hcut] at *
  (repeat' (first|refine And.intro ?_ ?_|intro _))<;>first|omega|exact True.intro|exact False.elim ‹False›|skip
  all_goals first
    |omega
    |(exfalso;exact hx (by omega) ‹_›)
    |(exfalso;rename_i hq;exact hq rfl)
    |(simp;done)
def TK (I:Alg) (args:List D) (hp:List HO):Option CT:=match args,hp with
  |[.v (.one (.ptr 0 0))],[.pack [.obj 167 [(.p (.str s))]]]=>(fun(s:Str)=>(some (.br (I.hid (decide (tokS s=[]))) (.one ⟨I.hid (s.length≤1000000∧tokS s=[]),(.pan (.ifc 163 false [(.int .i64 5)])),[.pack [.obj 167 [(.p (.str (I.hid ((tokE s)))))]]]⟩) (.one ⟨I.hid (s.length≤1000000∧¬ tokS s=[]),(.ret (.v (.one (.p (.str (I.hid ((tokS s)))))))),[.pack [.obj 167 [(.p (.str (I.hid ((tokE s)))))]]]⟩)):Option CT)) s
  |_,_=>none
theorem zeQ:zy Tryz.prog 134 (TK alg):=by
  intro args hp r h
  unfold TK at h
  split at h
  · cases h;exact⟨fun _ hn=>zkh _ hn,fun _ hn=>zki _ hn⟩
  · cases h
def YQ:Know Tryz.prog:=⟨134,TK,zeQ⟩
def YP:Know Tryz.prog:=⟨134,fun I=>zA I (TK I),zf zeQ⟩
theorem zkk (s:Str) (hneed:s.length≤1000000∧(quoF s).isSome=true):Spc Tryz.prog 146 [.v (.one (.ptr 0 0))] [.pack [.obj 167 [(.p (.str s))]]] (.ret (.v (.one (.p (.str ((quoV s))))))) [.pack [.obj 167 [(.p (.str ((quoR s))))]]]:=by
  obtain⟨hl,hne⟩:=hneed
  refine spcG zi mixed Tryz.func146 (by kernel_rfl) { nr:=[3],keep:=some [0,2,3,4]} [xu,xq] (by kernel_rfl) ?_
  intro I X hI hX
  refine zh (.code 0 [1,1,0] ⟨[(3,(.v (.one (.row 1)))),(2,(.v (.one (.p (.str ([]:Str)))))),(0,(.v (.one (.ptr 0 0))))],[(.pack [(.obj 167 [(.p (.str s))])]),(.row .byte 5 ([]:Str))],53,none⟩) (by kernel_rfl) ?_
  simp only [zn]
  refine zu hI zi mixed [xu,xq] hX [0,3] (fun(g:Str × Str)=>match g with|(b,t)=>b.length+t.length≤s.length∧quoF s=(quoF t).map (fun p=>(b++p.1,p.2))) (fun(g:Str × Str)=>match g with|(b,t)=>⟨[(0,.v (.one (.ptr 0 0))),(3,.v (.one (.row 1)))],[.pack [.obj 167 [(.p (.str t))]],.row .byte 5 b],53,none⟩) (fun(g:Str × Str)=>match g with|(b,t)=>t.length) ([],s) (by kernel_rfl) (by kernel_rfl) ?_ ?_
  · exact⟨by simp,by simp⟩
  rintro⟨b,t⟩ ⟨h1,h2⟩ A hA
  refine zh (let y0:=I.cut (α:=UInt8) t 1 (I.len (α:=UInt8) t);let y1:=I.b2i (I.get (α:=UInt8) t 0 0);let y2:HO:=.pack [(.obj 167 [(.p (.str y0))])];let y3:=I.b2i (I.get (α:=UInt8) y0 0 0);.br (I.hid (α:=Bool) (I.seq t ([]:Str))) (.need (I.hid (α:=(Prop)) (Eq (I.seq t ([]:Str)) Bool.true)) (.fin (.pan (.ifc 163 .false [(.int .i64 14)])) [(.pack [(.obj 167 [(.p (.str t))])])])) (.need (I.hid (α:=(Prop)) (Eq (I.seq t ([]:Str)) Bool.false)) (.need (I.inb 0 (I.len (α:=UInt8) t)) (.need (I.cutb 1 (I.len (α:=UInt8) t) (I.len (α:=UInt8) t)) (.br (I.ieq y1 34) (.fin (.ret (.v (.one (.p (.str b))))) [y2]) (.br (I.ieq y1 92) (.br (I.hid (α:=Bool) (I.seq y0 ([]:Str))) (.need (I.hid (α:=(Prop)) (Eq (I.seq y0 ([]:Str)) Bool.true)) (.fin (.pan (.ifc 163 .false [(.int .i64 14)])) [y2])) (.need (I.hid (α:=(Prop)) (Eq (I.seq y0 ([]:Str)) Bool.false)) (.need (I.inb 0 (I.len (α:=UInt8) y0)) (.need (I.cutb 1 (I.len (α:=UInt8) y0) (I.len (α:=UInt8) y0)) (.need (I.inr Go.IntKind.u8 y3) (.need (I.few (I.add (I.len (α:=UInt8) b) (I.len (α:=UInt8) ([(I.i2b y3)]:Str))) 140737488355328) (.need (A ⟨[(0,(.v (.one (.ptr 0 0)))),(3,(.v (.one (.row 1))))],[(.pack [(.obj 167 [(.p (.str (I.cut (α:=UInt8) y0 1 (I.len (α:=UInt8) y0))))])]),(.row .byte 5 (I.app (α:=UInt8) b ([(I.i2b y3)]:Str)))],53,none⟩) .qed))))))) (.need (I.inr Go.IntKind.u8 y1) (.need (I.few (I.add (I.len (α:=UInt8) b) (I.len (α:=UInt8) ([(I.i2b y1)]:Str))) 140737488355328) (.need (A ⟨[(0,(.v (.one (.ptr 0 0)))),(3,(.v (.one (.row 1))))],[y2,(.row .byte 5 (I.app (α:=UInt8) b ([(I.i2b y1)]:Str)))],53,none⟩) .qed))))))))) (by kernel_rfl) ?_
  simp only [zn]
  subst hI
  simp only [nrmA,nrmB,nrlB,reduceCtorEq,HO.pack.injEq,HO.obj.injEq]
  have hb:=xO (t.getD 0 0)
  rw [drop1]
  have hq: ∀ r:Str × Str,quoF s=some r→True:=fun _ _=>trivial
  cases t with
  | nil=>
    simp only [quoF,Option.map_none] at h2
    (repeat' (first|refine And.intro ?_ ?_|intro _))<;>first|omega|exact True.intro|exact False.elim ‹False›|skip
    all_goals first
      |omega
      |(simp_all;done)
  |cons x t=>
  cases t with
  | nil=>
    simp only [quoF] at h2
    have h34:((x.toNat:Int)=34)↔x=34:=xP x 34
    have h92:((x.toNat:Int)=92)↔x=92:=xP x 92
    simp only [List.getD_cons_zero,h34,h92,List.drop_succ_cons,List.drop_zero,List.length_cons,List.length_nil] at *
    have hgo: ¬ x=34→A ⟨[(0,.v (.one (.ptr 0 0))),(3,.v (.one (.row 1)))],[.pack [.obj 167 [(.p (.str ([])))]],.row .byte 5 ((b++[x]))],53,none⟩:=fun h=>hA (b++[x],[]) ⟨by simp;omega,by rw [h2,if_neg h];rfl⟩ (by simp)
    have hv:x=34→quoV s=b∧quoR s=[]:=fun h=>by unfold quoV quoR;rw [h2,if_pos h];simp
    clear hA
    (repeat' (first|refine And.intro ?_ ?_|intro _))<;>first|omega|exact True.intro|exact False.elim ‹False›|skip
    all_goals first
      |omega
      |exact(hv ‹_›).1.symm
      |exact(hv ‹_›).2.symm
      |exact hgo ‹_›
      |(simp_all;done)
  | cons y t=>
    simp only [quoF] at h2
    have h34:((x.toNat:Int)=34)↔x=34:=xP x 34
    have h92:((x.toNat:Int)=92)↔x=92:=xP x 92
    have hy:=xO y
    have hyt:List.take (t.length+1 - Int.toNat 1) (List.drop (Int.toNat 1) (y::t))=t:=by simpa using drop1 (y::t)
    simp only [List.getD_cons_zero,h34,h92,List.drop_succ_cons,List.drop_zero,List.length_cons] at *
    have hgoY: ¬ x=34→x=92→A ⟨[(0,.v (.one (.ptr 0 0))),(3,.v (.one (.row 1)))],[.pack [.obj 167 [(.p (.str t))]],.row .byte 5 ((b++[y]))],53,none⟩:=fun h k=>hA (b++[y],t) ⟨by simp;omega,by rw [h2,if_neg h,if_pos k,Option.map_map];congr 1;funext p;simp⟩ (by simp;omega)
    have hgoX: ¬ x=34→¬ x=92→A ⟨[(0,.v (.one (.ptr 0 0))),(3,.v (.one (.row 1)))],[.pack [.obj 167 [(.p (.str ((y::t))))]],.row .byte 5 ((b++[x]))],53,none⟩:=fun h k=>hA (b++[x],y::t) ⟨by simp;omega,by rw [h2,if_neg h,if_neg k,Option.map_map];congr 1;funext p;simp⟩ (by simp)
    have hv:x=34→quoV s=b∧quoR s=y::t:=fun h=>by unfold quoV quoR;rw [h2,if_pos h];simp
    clear hA
    simp only [List.length_nil,Nat.zero_add]
    first|rw [hyt]|skip
    (repeat' (first|refine And.intro ?_ ?_|intro _))<;>first|omega|exact True.intro|exact False.elim ‹False›|skip
    all_goals first
      |omega
      |exact(hv ‹_›).1.symm
      |exact(hv ‹_›).2.symm
      |exact hgoX ‹_› ‹_›
      |exact hgoY ‹_› ‹_›
      |(simp_all;done)
theorem zkj (s:Str) (hneed:s.length≤1000000∧(quoF s).isSome=false):Spc Tryz.prog 146 [.v (.one (.ptr 0 0))] [.pack [.obj 167 [(.p (.str s))]]] (.pan (.ifc 163 false [(.int .i64 14)])) [.pack [.obj 167 [(.p (.str ([])))]]]:=by
  obtain⟨hl,hne⟩:=hneed
  refine spcG zi mixed Tryz.func146 (by kernel_rfl) { nr:=[3],keep:=some [0,2,3,4]} [xu,xq] (by kernel_rfl) ?_
  intro I X hI hX
  refine zh (.code 0 [1,1,0] ⟨[(3,(.v (.one (.row 1)))),(2,(.v (.one (.p (.str ([]:Str)))))),(0,(.v (.one (.ptr 0 0))))],[(.pack [(.obj 167 [(.p (.str s))])]),(.row .byte 5 ([]:Str))],53,none⟩) (by kernel_rfl) ?_
  simp only [zn]
  refine zu hI zi mixed [xu,xq] hX [0,3] (fun(g:Str × Str)=>match g with|(b,t)=>b.length+t.length≤s.length∧quoF s=(quoF t).map (fun p=>(b++p.1,p.2))) (fun(g:Str × Str)=>match g with|(b,t)=>⟨[(0,.v (.one (.ptr 0 0))),(3,.v (.one (.row 1)))],[.pack [.obj 167 [(.p (.str t))]],.row .byte 5 b],53,none⟩) (fun(g:Str × Str)=>match g with|(b,t)=>t.length) ([],s) (by kernel_rfl) (by kernel_rfl) ?_ ?_
  · exact⟨by simp,by simp⟩
  rintro⟨b,t⟩ ⟨h1,h2⟩ A hA
  refine zh (let y0:=I.cut (α:=UInt8) t 1 (I.len (α:=UInt8) t);let y1:=I.b2i (I.get (α:=UInt8) t 0 0);let y2:HO:=.pack [(.obj 167 [(.p (.str y0))])];let y3:=I.b2i (I.get (α:=UInt8) y0 0 0);.br (I.hid (α:=Bool) (I.seq t ([]:Str))) (.need (I.hid (α:=(Prop)) (Eq (I.seq t ([]:Str)) Bool.true)) (.fin (.pan (.ifc 163 .false [(.int .i64 14)])) [(.pack [(.obj 167 [(.p (.str t))])])])) (.need (I.hid (α:=(Prop)) (Eq (I.seq t ([]:Str)) Bool.false)) (.need (I.inb 0 (I.len (α:=UInt8) t)) (.need (I.cutb 1 (I.len (α:=UInt8) t) (I.len (α:=UInt8) t)) (.br (I.ieq y1 34) (.fin (.ret (.v (.one (.p (.str b))))) [y2]) (.br (I.ieq y1 92) (.br (I.hid (α:=Bool) (I.seq y0 ([]:Str))) (.need (I.hid (α:=(Prop)) (Eq (I.seq y0 ([]:Str)) Bool.true)) (.fin (.pan (.ifc 163 .false [(.int .i64 14)])) [y2])) (.need (I.hid (α:=(Prop)) (Eq (I.seq y0 ([]:Str)) Bool.false)) (.need (I.inb 0 (I.len (α:=UInt8) y0)) (.need (I.cutb 1 (I.len (α:=UInt8) y0) (I.len (α:=UInt8) y0)) (.need (I.inr Go.IntKind.u8 y3) (.need (I.few (I.add (I.len (α:=UInt8) b) (I.len (α:=UInt8) ([(I.i2b y3)]:Str))) 140737488355328) (.need (A ⟨[(0,(.v (.one (.ptr 0 0)))),(3,(.v (.one (.row 1))))],[(.pack [(.obj 167 [(.p (.str (I.cut (α:=UInt8) y0 1 (I.len (α:=UInt8) y0))))])]),(.row .byte 5 (I.app (α:=UInt8) b ([(I.i2b y3)]:Str)))],53,none⟩) .qed))))))) (.need (I.inr Go.IntKind.u8 y1) (.need (I.few (I.add (I.len (α:=UInt8) b) (I.len (α:=UInt8) ([(I.i2b y1)]:Str))) 140737488355328) (.need (A ⟨[(0,(.v (.one (.ptr 0 0)))),(3,(.v (.one (.row 1))))],[y2,(.row .byte 5 (I.app (α:=UInt8) b ([(I.i2b y1)]:Str)))],53,none⟩) .qed))))))))) (by kernel_rfl) ?_
  simp only [zn]
  subst hI
  simp only [nrmA,nrmB,nrlB,reduceCtorEq,HO.pack.injEq,HO.obj.injEq]
  have hb:=xO (t.getD 0 0)
  rw [drop1]
  have hq: ∀ r:Str × Str,quoF s=some r→True:=fun _ _=>trivial
  cases t with
  | nil=>
    simp only [quoF,Option.map_none] at h2
    (repeat' (first|refine And.intro ?_ ?_|intro _))<;>first|omega|exact True.intro|exact False.elim ‹False›|skip
    all_goals first
      |omega
      |(simp_all;done)
  |cons x t=>
  cases t with
  | nil=>
    simp only [quoF] at h2
    have h34:((x.toNat:Int)=34)↔x=34:=xP x 34
    have h92:((x.toNat:Int)=92)↔x=92:=xP x 92
    simp only [List.getD_cons_zero,h34,h92,List.drop_succ_cons,List.drop_zero,List.length_cons,List.length_nil] at *
    have hgo: ¬ x=34→A ⟨[(0,.v (.one (.ptr 0 0))),(3,.v (.one (.row 1)))],[.pack [.obj 167 [(.p (.str ([])))]],.row .byte 5 ((b++[x]))],53,none⟩:=fun h=>hA (b++[x],[]) ⟨by simp;omega,by rw [h2,if_neg h];rfl⟩ (by simp)
    have hv:x=34→quoV s=b∧quoR s=[]:=fun h=>by unfold quoV quoR;rw [h2,if_pos h];simp
    clear hA
    (repeat' (first|refine And.intro ?_ ?_|intro _))<;>first|omega|exact True.intro|exact False.elim ‹False›|skip
    all_goals first
      |omega
      |exact(hv ‹_›).1.symm
      |exact(hv ‹_›).2.symm
      |exact hgo ‹_›
      |(simp_all;done)
  | cons y t=>
    simp only [quoF] at h2
    have h34:((x.toNat:Int)=34)↔x=34:=xP x 34
    have h92:((x.toNat:Int)=92)↔x=92:=xP x 92
    have hy:=xO y
    have hyt:List.take (t.length+1 - Int.toNat 1) (List.drop (Int.toNat 1) (y::t))=t:=by simpa using drop1 (y::t)
    simp only [List.getD_cons_zero,h34,h92,List.drop_succ_cons,List.drop_zero,List.length_cons] at *
    have hgoY: ¬ x=34→x=92→A ⟨[(0,.v (.one (.ptr 0 0))),(3,.v (.one (.row 1)))],[.pack [.obj 167 [(.p (.str t))]],.row .byte 5 ((b++[y]))],53,none⟩:=fun h k=>hA (b++[y],t) ⟨by simp;omega,by rw [h2,if_neg h,if_pos k,Option.map_map];congr 1;funext p;simp⟩ (by simp;omega)
    have hgoX: ¬ x=34→¬ x=92→A ⟨[(0,.v (.one (.ptr 0 0))),(3,.v (.one (.row 1)))],[.pack [.obj 167 [(.p (.str ((y::t))))]],.row .byte 5 ((b++[x]))],53,none⟩:=fun h k=>hA (b++[x],y::t) ⟨by simp;omega,by rw [h2,if_neg h,if_neg k,Option.map_map];congr 1;funext p;simp⟩ (by simp)
    have hv:x=34→quoV s=b∧quoR s=y::t:=fun h=>by unfold quoV quoR;rw [h2,if_pos h];simp
    clear hA
    simp only [List.length_nil,Nat.zero_add]
    first|rw [hyt]|skip
    (repeat' (first|refine And.intro ?_ ?_|intro _))<;>first|omega|exact True.intro|exact False.elim ‹False›|skip
    all_goals first
      |omega
      |exact(hv ‹_›).1.symm
      |exact(hv ‹_›).2.symm
      |exact hgoX ‹_› ‹_›
      |exact hgoY ‹_› ‹_›
      |(simp_all;done)
def TL (I:Alg) (args:List D) (hp:List HO):Option CT:=match args,hp with
  |[.v (.one (.ptr 0 0))],[.pack [.obj 167 [(.p (.str s))]]]=>(fun(s:Str)=>(some (.br (I.hid ((quoF s).isSome)) (.one ⟨I.hid (s.length≤1000000∧(quoF s).isSome=true),(.ret (.v (.one (.p (.str (I.hid ((quoV s)))))))),[.pack [.obj 167 [(.p (.str (I.hid ((quoR s)))))]]]⟩) (.one ⟨I.hid (s.length≤1000000∧(quoF s).isSome=false),(.pan (.ifc 163 false [(.int .i64 14)])),[.pack [.obj 167 [(.p (.str (I.hid ([]))))]]]⟩)):Option CT)) s
  |_,_=>none
theorem zeT:zy Tryz.prog 146 (TL alg):=by
  intro args hp r h
  unfold TL at h
  split at h
  · cases h;exact⟨fun _ hn=>zkk _ hn,fun _ hn=>zkj _ hn⟩
  · cases h
def zeS:Know Tryz.prog:=⟨146,TL,zeT⟩
def zeR:Know Tryz.prog:=⟨146,fun I=>zA I (TL I),zf zeT⟩
theorem zkm (s:Str) (hneed:s.length≤1000000∧(parM s).1=0):Spc Tryz.prog 136 [.v (.one (.ptr 0 0))] [.pack [.obj 167 [(.p (.str s))]]] (.ret (.v (.agg [(.p (.str ((parM s).2.1.name))),(.p (.str ((parM s).2.1.value)))]))) [.pack [.obj 167 [(.p (.str ((parM s).2.2)))]]]:=by
  obtain⟨hl,hc⟩:=hneed
  generalize hr:parM s=r at hc
  obtain⟨c,⟨n,v⟩,z⟩:=r
  simp only at hc
  subst hc
  refine spcG zi mixed Tryz.func136 (by kernel_rfl) { keep:=some [0,2,3]} [wF,wE,xu,xq,qx,qw,YQ,YP,zeS,zeR] (by kernel_rfl) ?_
  intro I X hI hX
  refine zh (let y2:=I.hid (α:=Str) (ite (Eq (zI (I.hid (α:=Str) (tokE s)) (UInt8.ofNat (Int.toNat (61:Int)))) Bool.true) (List.drop 1 (I.hid (α:=Str) (tokE s))) (I.hid (α:=Str) (tokE s)));let y0:=I.hid (α:=Str) (ite (Eq (zI y2 (UInt8.ofNat (Int.toNat (34:Int)))) Bool.true) (List.drop 1 y2) y2);let y1:=I.bnot (I.hid (α:=Bool) (zI (I.hid (α:=Str) (tokE s)) (UInt8.ofNat (Int.toNat (61:Int)))));let y3:HO:=.pack [(.obj 167 [(.p (.str (I.hid (α:=Str) (tokE y0))))])];let y4:=I.hid (α:=Str) (lowS (I.hid (α:=Str) (tokS s)));.br (I.hid (α:=Bool) (Decidable.decide (Eq (tokS s) ([]:Str)))) (.need (I.hid (α:=(Prop)) (And (LE.le (List.length s) 1000000) (Eq (tokS s) ([]:Str)))) (.fin (.pan (.ifc 163 .false [(.int .i64 5)])) [(.pack [(.obj 167 [(.p (.str (I.hid (α:=Str) (tokE s))))])])])) (.need (I.hid (α:=(Prop)) (And (LE.le (List.length s) 1000000) (Not (Eq (tokS s) ([]:Str))))) (.need (I.hid (α:=(Prop)) (LE.le (List.length (I.hid (α:=Str) (tokS s))) 1000000)) (.need (I.hid (α:=(Prop)) (And (LE.le (0:Int) (61:Int)) (LE.le (61:Int) (255:Int)))) (.br (I.hid (α:=Bool) y1) (.need (I.hid (α:=(Prop)) (Eq y1 Bool.true)) (.fin (.pan (.ifc 163 .false [(.int .i64 5)])) [(.pack [(.obj 167 [(.p (.str y2))])])])) (.need (I.hid (α:=(Prop)) (Eq y1 Bool.false)) (.need (I.hid (α:=(Prop)) (And (LE.le (0:Int) (34:Int)) (LE.le (34:Int) (255:Int)))) (.br (I.hid (α:=Bool) (zI y2 (UInt8.ofNat (Int.toNat (34:Int))))) (.br (I.hid (α:=Bool) (Option.isSome (quoF y0))) (.need (I.hid (α:=(Prop)) (And (LE.le (List.length y0) 1000000) (Eq (Option.isSome (quoF y0)) Bool.true))) (.fin (.ret (.v (.agg [(.p (.str y4)),(.p (.str (I.hid (α:=Str) (quoV y0))))]))) [(.pack [(.obj 167 [(.p (.str (I.hid (α:=Str) (quoR y0))))])])])) (.need (I.hid (α:=(Prop)) (And (LE.le (List.length y0) 1000000) (Eq (Option.isSome (quoF y0)) Bool.false))) (.fin (.pan (.ifc 163 .false [(.int .i64 14)])) [(.pack [(.obj 167 [(.p (.str (I.hid (α:=Str) ([]:Str))))])])]))) (.br (I.hid (α:=Bool) (Decidable.decide (Eq (tokS y0) ([]:Str)))) (.need (I.hid (α:=(Prop)) (And (LE.le (List.length y0) 1000000) (Eq (tokS y0) ([]:Str)))) (.fin (.pan (.ifc 163 .false [(.int .i64 5)])) [y3])) (.need (I.hid (α:=(Prop)) (And (LE.le (List.length y0) 1000000) (Not (Eq (tokS y0) ([]:Str))))) (.fin (.ret (.v (.agg [(.p (.str y4)),(.p (.str (I.hid (α:=Str) (tokS y0))))]))) [y3]))))))))))) (by kernel_rfl) ?_
  simp only [zn]
  subst hI
  simp only [nrmA,nrmB,nrlB,reduceCtorEq,HO.pack.injEq,HO.obj.injEq]
  unfold parM at hr
  have hl1:=yP s
  have hl2:=xU s
  simp only [show UInt8.ofNat (Int.toNat 61)=61 from rfl,show UInt8.ofNat (Int.toNat 34)=34 from rfl] at *
  (repeat' (first|refine And.intro ?_ ?_|intro _))<;>first|omega|exact True.intro|exact False.elim ‹False›|skip
  all_goals first
    |omega
    |(simp_all;done)
    |(simp_all;omega)
theorem zkl (s:Str) (hneed:s.length≤1000000∧¬ (parM s).1=0):Spc Tryz.prog 136 [.v (.one (.ptr 0 0))] [.pack [.obj 167 [(.p (.str s))]]] (.pan (.ifc 163 false [(.int .i64 ((parM s).1))])) [.pack [.obj 167 [(.p (.str ((parM s).2.2)))]]]:=by
  obtain⟨hl,hc⟩:=hneed
  generalize hr:parM s=r at hc
  obtain⟨c,⟨n,v⟩,z⟩:=r
  simp only at hc
  refine spcG zi mixed Tryz.func136 (by kernel_rfl) { keep:=some [0,2,3]} [wF,wE,xu,xq,qx,qw,YQ,YP,zeS,zeR] (by kernel_rfl) ?_
  intro I X hI hX
  refine zh (let y2:=I.hid (α:=Str) (ite (Eq (zI (I.hid (α:=Str) (tokE s)) (UInt8.ofNat (Int.toNat (61:Int)))) Bool.true) (List.drop 1 (I.hid (α:=Str) (tokE s))) (I.hid (α:=Str) (tokE s)));let y0:=I.hid (α:=Str) (ite (Eq (zI y2 (UInt8.ofNat (Int.toNat (34:Int)))) Bool.true) (List.drop 1 y2) y2);let y1:=I.bnot (I.hid (α:=Bool) (zI (I.hid (α:=Str) (tokE s)) (UInt8.ofNat (Int.toNat (61:Int)))));let y3:HO:=.pack [(.obj 167 [(.p (.str (I.hid (α:=Str) (tokE y0))))])];let y4:=I.hid (α:=Str) (lowS (I.hid (α:=Str) (tokS s)));.br (I.hid (α:=Bool) (Decidable.decide (Eq (tokS s) ([]:Str)))) (.need (I.hid (α:=(Prop)) (And (LE.le (List.length s) 1000000) (Eq (tokS s) ([]:Str)))) (.fin (.pan (.ifc 163 .false [(.int .i64 5)])) [(.pack [(.obj 167 [(.p (.str (I.hid (α:=Str) (tokE s))))])])])) (.need (I.hid (α:=(Prop)) (And (LE.le (List.length s) 1000000) (Not (Eq (tokS s) ([]:Str))))) (.need (I.hid (α:=(Prop)) (LE.le (List.length (I.hid (α:=Str) (tokS s))) 1000000)) (.need (I.hid (α:=(Prop)) (And (LE.le (0:Int) (61:Int)) (LE.le (61:Int) (255:Int)))) (.br (I.hid (α:=Bool) y1) (.need (I.hid (α:=(Prop)) (Eq y1 Bool.true)) (.fin (.pan (.ifc 163 .false [(.int .i64 5)])) [(.pack [(.obj 167 [(.p (.str y2))])])])) (.need (I.hid (α:=(Prop)) (Eq y1 Bool.false)) (.need (I.hid (α:=(Prop)) (And (LE.le (0:Int) (34:Int)) (LE.le (34:Int) (255:Int)))) (.br (I.hid (α:=Bool) (zI y2 (UInt8.ofNat (Int.toNat (34:Int))))) (.br (I.hid (α:=Bool) (Option.isSome (quoF y0))) (.need (I.hid (α:=(Prop)) (And (LE.le (List.length y0) 1000000) (Eq (Option.isSome (quoF y0)) Bool.true))) (.fin (.ret (.v (.agg [(.p (.str y4)),(.p (.str (I.hid (α:=Str) (quoV y0))))]))) [(.pack [(.obj 167 [(.p (.str (I.hid (α:=Str) (quoR y0))))])])])) (.need (I.hid (α:=(Prop)) (And (LE.le (List.length y0) 1000000) (Eq (Option.isSome (quoF y0)) Bool.false))) (.fin (.pan (.ifc 163 .false [(.int .i64 14)])) [(.pack [(.obj 167 [(.p (.str (I.hid (α:=Str) ([]:Str))))])])]))) (.br (I.hid (α:=Bool) (Decidable.decide (Eq (tokS y0) ([]:Str)))) (.need (I.hid (α:=(Prop)) (And (LE.le (List.length y0) 1000000) (Eq (tokS y0) ([]:Str)))) (.fin (.pan (.ifc 163 .false [(.int .i64 5)])) [y3])) (.need (I.hid (α:=(Prop)) (And (LE.le (List.length y0) 1000000) (Not (Eq (tokS y0) ([]:Str))))) (.fin (.ret (.v (.agg [(.p (.str y4)),(.p (.str (I.hid (α:=Str) (tokS y0))))]))) [y3]))))))))))) (by kernel_rfl) ?_
  simp only [zn]
  subst hI
  simp only [nrmA,nrmB,nrlB,reduceCtorEq,HO.pack.injEq,HO.obj.injEq]
  unfold parM at hr
  have hl1:=yP s
  have hl2:=xU s
  simp only [show UInt8.ofNat (Int.toNat 61)=61 from rfl,show UInt8.ofNat (Int.toNat 34)=34 from rfl] at *
  (repeat' (first|refine And.intro ?_ ?_|intro _))<;>first|omega|exact True.intro|exact False.elim ‹False›|skip
  all_goals first
    |omega
    |(simp_all;done)
    |(simp_all;omega)
    |(by_cases hq:tokS (List.drop 1 (tokE s))=[]<;>simp_all;done)
def TP (I:Alg) (args:List D) (hp:List HO):Option CT:=match args,hp with
  |[.v (.one (.ptr 0 0))],[.pack [.obj 167 [(.p (.str s))]]]=>(fun(s:Str)=>(some (.br (I.hid (decide ((parM s).1=0))) (.one ⟨I.hid (s.length≤1000000∧(parM s).1=0),(.ret (.v (.agg [(.p (.str (I.hid ((parM s).2.1.name)))),(.p (.str (I.hid ((parM s).2.1.value))))]))),[.pack [.obj 167 [(.p (.str (I.hid ((parM s).2.2))))]]]⟩) (.one ⟨I.hid (s.length≤1000000∧¬ (parM s).1=0),(.pan (.ifc 163 false [(.int .i64 (I.hid ((parM s).1)))])),[.pack [.obj 167 [(.p (.str (I.hid ((parM s).2.2))))]]]⟩)):Option CT)) s
  |_,_=>none
theorem zeW:zy Tryz.prog 136 (TP alg):=by
  intro args hp r h
  unfold TP at h
  split at h
  · cases h;exact⟨fun _ hn=>zkm _ hn,fun _ hn=>zkl _ hn⟩
  · cases h
def TN:Know Tryz.prog:=⟨136,TP,zeW⟩
def TM:Know Tryz.prog:=⟨136,fun I=>zA I (TP I),zf zeW⟩
end Go.Proofs.YtknaogelmckimaaGreatDoor
namespace Go.Proofs.YtknaogelmckimaaGreatDoor
open Go Go.Sep Go.Ab
set_option maxRecDepth 100000
theorem zks (a b n:Str):Spc Tryz.prog 125 [.v (.agg [(.p (.str a)),(.p (.str b))]),.v (.one (.ptr 0 0))] [.pack [.obj 9 [(.p (.str n))]]] (.ret (.v (.one (.p (.bool ((a == n))))))) [.pack [.obj 9 [(.p (.str n))]]]:=by
  refine spcG zi mixed Tryz.func125 (by kernel_rfl) { keep:=some [0,1,2,3]} [] (by kernel_rfl) ?_
  intro I X hI hX
  refine zh (.fin (.ret (.v (.one (.p (.bool (I.seq a n)))))) [(.pack [(.obj 9 [(.p (.str n))])])]) (by kernel_rfl) ?_
  simp only [zn]
  subst hI
  simp only [nrmA,nrmB,nrlB,reduceCtorEq,HO.pack.injEq,HO.obj.injEq]
  try trivial
def X5 (I:Alg) (args:List D) (hp:List HO):Option CT:=match args,hp with
  |[.v (.agg [(.p (.str a)),(.p (.str b))]),.v (.one (.ptr 0 0))],[.pack [.obj 9 [(.p (.str n))]]]=>(fun(a b n:Str)=>(some (.one ⟨I.hid (True),(.ret (.v (.one (.p (.bool (I.hid ((a == n)))))))),[.pack [.obj 9 [(.p (.str n))]]]⟩):Option CT)) a b n
  |_,_=>none
theorem zct:zy Tryz.prog 125 (X5 alg):=by
  intro args hp r h
  unfold X5 at h
  split at h
  · cases h;exact fun hn=>zks _ _ _
  · cases h
def TS:Know Tryz.prog:=⟨125,X5,zct⟩
def zg8:Know Tryz.prog:=⟨125,fun I=>zA I (X5 I),zf zct⟩
def ixP (l:List Fld) (n:Str):Int:=if l.findIdx (fun f=>f.name == n)<l.length then(l.findIdx (fun f=>f.name == n):Int) else -1
set_option maxHeartbeats 1000000 in
theorem pIx_ (l:List Fld) (n:Str) (hneed:l.length≤1000000):Spc Tryz.prog 103 [.v (.one (.p (.list .fld l))),.v (.one (.fn 125 [.ptr 0 0]))] [.pack [.obj 9 [(.p (.str n))]]] (.ret (.v (.one (.p (.int .i64 ((ixP l n))))))) [.pack [.obj 9 [(.p (.str n))]]]:=by
  refine spcG zi mixed Tryz.func103 (by kernel_rfl) { keep:=some [0,1,4,5,7,8]} [TS] (by kernel_rfl) ?_
  intro I X hI hX
  refine zh (.code 0 [1,0,1,0] ⟨[(8,(.v (.one (.p (.int .i64 0))))),(7,(.v (.one (.p (.int .i64 (I.len (α:=Fld) l)))))),(4,(.v (.one (.p (.int .i64 0))))),(0,(.v (.one (.p (.list .fld l))))),(1,(.v (.one (.fn 125 [(.ptr 0 0)]))))],[(.pack [(.obj 9 [(.p (.str n))])])],19,none⟩) (by kernel_rfl) ?_
  simp only [zn]
  refine zu hI zi mixed [TS] hX [0,1,7,8] (fun(i:Nat)=>i≤l.length∧i≤l.findIdx (fun f=>f.name == n)) (fun(i:Nat)=>⟨[(0,.v (.one (.p (.list .fld l)))),(1,.v (.one (.fn 125 [.ptr 0 0]))),(7,.v (.one (.p (.int .i64 ((I.len (α:=Fld) l)))))),(8,.v (.one (.p (.int .i64 i))))],[.pack [.obj 9 [(.p (.str n))]]],19,none⟩) (fun(i:Nat)=>l.length - i) 0 (by kernel_rfl) (by kernel_rfl) ?_ ?_
  · exact⟨Nat.zero_le _,Nat.zero_le _⟩
  rintro i ⟨h1,h2⟩ A hA
  refine zh (let y0:HO:=.pack [(.obj 9 [(.p (.str n))])];let y1:=I.inb (Nat.cast i) (I.len (α:=Fld) l);.br (I.ilt (Nat.cast i) (I.len (α:=Fld) l)) (.need y1 (.need y1 (.need (I.hid (α:=(Prop)) True) (.br (I.hid (α:=Bool) (BEq.beq (Fld.name (I.get (α:=Fld) l (Fld.mk ([]:Str) ([]:Str)) (Nat.cast i))) n)) (.fin (.ret (.v (.one (.p (.int .i64 (Nat.cast i)))))) [y0]) (.need (I.inr Go.IntKind.i64 (I.add (Nat.cast i) 1)) (.need (A ⟨[(0,(.v (.one (.p (.list .fld l))))),(1,(.v (.one (.fn 125 [(.ptr 0 0)])))),(7,(.v (.one (.p (.int .i64 (I.len (α:=Fld) l)))))),(8,(.v (.one (.p (.int .i64 (I.add (Nat.cast i) 1))))))],[y0],19,none⟩) .qed)))))) (.fin (.ret (.v (.one (.p (.int .i64 (Neg.neg (1:Int))))))) [y0])) (by kernel_rfl) ?_
  simp only [zn]
  subst hI
  simp only [nrmA,nrmB,nrlB,reduceCtorEq,HO.pack.injEq,HO.obj.injEq]
  have hfl:l.findIdx (fun f=>f.name == n)≤l.length:=List.findIdx_le_length
  have hyes:i<l.length→(l.getD i ⟨[],[]⟩).name=n→ixP l n=i:=fun h hid=>by
    have h0:l.findIdx (fun f=>f.name == n)≤i:=by
      refine Nat.le_of_not_lt fun hlt=> ?_
      have:=List.not_of_lt_findIdx hlt
      rw [List.getD_eq_getElem?_getD,List.getElem?_eq_getElem h] at hid
      simp only [Option.getD_some] at hid
      rw [hid] at this;simp at this
    unfold ixP
    rw [if_pos (by omega)];omega
  have hno:i<l.length→¬ (l.getD i ⟨[],[]⟩).name=n→i+1≤l.findIdx (fun f=>f.name == n):=fun h hid=>by
    refine Nat.lt_of_le_of_ne h2 fun e=>hid ?_
    have hlt:l.findIdx (fun f=>f.name == n)<l.length:=by omega
    have:=List.findIdx_getElem (xs:=l) (p:=fun f=>f.name == n) (w:=hlt)
    have h9:l.getD i ⟨[],[]⟩=l[l.findIdx (fun f=>f.name == n)]:=by simp [e,List.getD_eq_getElem?_getD,hlt]
    rw [h9];simpa using this
  have hend: ¬ i<l.length→ixP l n= -1:=fun h=>by unfold ixP;rw [if_neg (by omega)]
  generalize l.getD i ⟨[],[]⟩=x at *
  (repeat' (first|refine And.intro ?_ ?_|intro _))<;>first|omega|exact True.intro|exact False.elim ‹False›|skip
  all_goals first
    |omega
    |(exact(hyes (by omega) ‹_›).symm)
    |(exact hA (i+1) ⟨by omega,hno (by omega) ‹_›⟩ (by omega))
    |(exact(hend (by omega)).symm)
def zcs (I:Alg) (args:List D) (hp:List HO):Option CT:=match args,hp with
  |[.v (.one (.p (.list .fld l))),.v (.one (.fn 125 [.ptr 0 0]))],[.pack [.obj 9 [(.p (.str n))]]]=>(fun(l:List Fld) (n:Str)=>(some (.one ⟨I.hid (l.length≤1000000),(.ret (.v (.one (.p (.int .i64 (I.hid ((ixP l n)))))))),[.pack [.obj 9 [(.p (.str n))]]]⟩):Option CT)) l n
  |_,_=>none
theorem zh1:zy Tryz.prog 103 (zcs alg):=by
  intro args hp r h
  unfold zcs at h
  split at h
  · cases h;exact fun hn=>pIx_ _ _ hn
  · cases h
def zkr:Know Tryz.prog:=⟨103,zcs,zh1⟩
def zkq:Know Tryz.prog:=⟨103,fun I=>zA I (zcs I),zf zh1⟩
theorem zkJ (l:List Fld) (n:Str): -1≤ixP l n∧ixP l n<l.length:=by unfold ixP;split<;>omega
theorem zjn (l:List Fld) (n:Str):getP l n=if 0≤ixP l n then((l.getD (ixP l n).toNat ⟨[],[]⟩).value,true) else([],false):=by
  unfold getP ixP
  rw [List.find?_eq_getElem?_findIdx]
  by_cases h:l.findIdx (fun f=>f.name == n)<l.length
  · rw [if_pos h,if_pos (by omega),List.getElem?_eq_getElem h]
    simp [List.getD_eq_getElem?_getD,h]
  · rw [if_neg h,if_neg (by omega),List.getElem?_eq_none (by omega)]
theorem zli (w:Str) (l:List Fld) (n:Str) (hneed:l.length≤1000000):Spc Tryz.prog 114 [.v (.agg [(.p (.str w)),(.p (.list .fld l))]),.v (.one (.p (.str n)))] [] (.ret (.tup [(.one (.p (.str ((getP l n).1)))),(.one (.p (.bool ((getP l n).2))))])) []:=by
  rw [zjn]
  have hx:=zkJ l n
  refine spcG zi mixed Tryz.func114 (by kernel_rfl) { keep:=some [0,1,2,3,4,5,6]} [TS,zg8,zkr,zkq] (by kernel_rfl) ?_
  intro I X hI hX
  refine zh (let y0:=I.inb (I.hid (α:=Int) (ixP l n)) (I.len (α:=Fld) l);.need (I.hid (α:=(Prop)) (LE.le (List.length l) 1000000)) (.br (I.ilt (I.hid (α:=Int) (ixP l n)) 0) (.fin (.ret (.tup [(.one (.p (.str ([]:Str)))),(.one (.p (.bool Bool.false)))])) []) (.need y0 (.need y0 (.fin (.ret (.tup [(.one (.p (.str (Fld.value (I.get (α:=Fld) l (Fld.mk ([]:Str) ([]:Str)) (I.hid (α:=Int) (ixP l n))))))),(.one (.p (.bool Bool.true)))])) []))))) (by kernel_rfl) ?_
  simp only [zn]
  subst hI
  simp only [nrmA,nrmB]
  (repeat' (first|refine And.intro ?_ ?_|intro _))<;>first|omega|exact True.intro|exact False.elim ‹False›|skip
  all_goals first
    |omega
    |(rw [if_pos (by omega)])
    |(rw [if_neg (by omega)])
def TR (I:Alg) (args:List D) (hp:List HO):Option CT:=match args,hp with
  |[.v (.agg [(.p (.str w)),(.p (.list .fld l))]),.v (.one (.p (.str n)))],[]=>(fun(w:Str) (l:List Fld) (n:Str)=>(some (.one ⟨I.hid (l.length≤1000000),(.ret (.tup [(.one (.p (.str (I.hid ((getP l n).1))))),(.one (.p (.bool (I.hid ((getP l n).2)))))])),[]⟩):Option CT)) w l n
  |_,_=>none
theorem zeY:zy Tryz.prog 114 (TR alg):=by
  intro args hp r h
  unfold TR at h
  split at h
  · cases h;exact fun hn=>zli _ _ _ hn
  · cases h
def Vf:Know Tryz.prog:=⟨114,TR,zeY⟩
def Ve:Know Tryz.prog:=⟨114,fun I=>zA I (TR I),zf zeY⟩
def cfgM:Cfg:= { sl:=[⟨85,1,.fld,some 82⟩]}
set_option maxHeartbeats 4000000 in
theorem zkp (s:Str) (hneed:s.length≤1000000∧(yB s).1=0):Spc Tryz.prog 124 [.v (.one (.ptr 0 0))] [.pack [.obj 167 [(.p (.str s))]]] (.ret (.v (.agg [(.p (.str ((yB s).2.1.word))),(.p (.list .fld ((yB s).2.1.params)))]))) [.pack [.obj 167 [(.p (.str ((yB s).2.2)))]]]:=by
  obtain⟨hl,hc⟩:=hneed
  generalize hr:yB s=r at hc
  obtain⟨c,⟨w,ps⟩,z⟩:=r
  simp only at hc
  subst hc
  refine spcG zi mixed Tryz.func124 (by kernel_rfl) { cfgM with lend:=[114],keep:=some [0,2,3,4,6]} [wF,wE,xu,xq,qA,qy,qx,qw,YQ,YP,TN,TM,Vf,Ve] (by kernel_rfl) ?_
  intro I X hI hX
  refine zh (let y11:=I.hid (α:=Str) (tokE (I.hid (α:=Str) (skS s)));let y0:=I.hid (α:=Str) (ite (Eq (zI y11 (UInt8.ofNat (Int.toNat (47:Int)))) Bool.true) (List.drop 1 y11) y11);let y12:=I.hid (α:=Str) (tokS (I.hid (α:=Str) (skS s)));let y1:=I.few (I.add (I.len (α:=UInt8) (I.hid (α:=Str) (lowS y12))) (I.len (α:=UInt8) (I.app (α:=UInt8) ([47]:Str) (I.hid (α:=Str) (lowS (I.hid (α:=Str) (tokS y0))))))) 1000000000;let y2:HO:=.obj 85 [(.p (.str (I.app (α:=UInt8) (I.hid (α:=Str) (lowS y12)) (I.app (α:=UInt8) ([47]:Str) (I.hid (α:=Str) (lowS (I.hid (α:=Str) (tokS y0)))))))),.nilS];let y3:=I.few (I.add (I.len (α:=UInt8) ([47]:Str)) (I.len (α:=UInt8) (I.hid (α:=Str) (lowS (I.hid (α:=Str) (tokS y0)))))) 1000000000;let y4:HO:=.pack [(.obj 167 [(.p (.str (I.hid (α:=Str) (skS (I.hid (α:=Str) (tokE y0))))))])];let y5:=I.hid (α:=(Prop)) (LE.le (List.length (I.hid (α:=Str) (tokS y0))) 1000000);let y6:HO:=.obj 85 [(.p (.str ([]:Str))),.nilS];let y7:=I.hid (α:=(Prop)) (And (LE.le (List.length y0) 1000000) (Not (Eq (tokS y0) ([]:Str))));let y8:=I.hid (α:=(Prop)) (And (LE.le (List.length y0) 1000000) (Eq (tokS y0) ([]:Str)));let y9:=I.hid (α:=Bool) (Decidable.decide (Eq (tokS y0) ([]:Str)));let y10:HO:=.pack [(.obj 167 [(.p (.str (I.hid (α:=Str) (tokE y0))))])];.need (I.hid (α:=(Prop)) True) (.br (I.hid (α:=Bool) (Decidable.decide (Eq (tokS (I.hid (α:=Str) (skS s))) ([]:Str)))) (.need (I.hid (α:=(Prop)) (And (LE.le (List.length (I.hid (α:=Str) (skS s))) 1000000) (Eq (tokS (I.hid (α:=Str) (skS s))) ([]:Str)))) (.fin (.pan (.ifc 163 .false [(.int .i64 5)])) [(.pack [(.obj 167 [(.p (.str y11))])])])) (.need (I.hid (α:=(Prop)) (And (LE.le (List.length (I.hid (α:=Str) (skS s))) 1000000) (Not (Eq (tokS (I.hid (α:=Str) (skS s))) ([]:Str))))) (.need (I.hid (α:=(Prop)) (LE.le (List.length y12) 1000000)) (.need (I.hid (α:=(Prop)) (And (LE.le (0:Int) (47:Int)) (LE.le (47:Int) (255:Int)))) (.br (I.hid (α:=Bool) (zI y11 (UInt8.ofNat (Int.toNat (47:Int))))) (.both (.br y9 (.need y8 (.fin (.pan (.ifc 163 .false [(.int .i64 5)])) [y10])) (.need y7 (.need y5 (.need y3 (.need y1 (.need (I.hid (α:=(Prop)) True) (.code 0 [1,1,1,1,0,1,0] ⟨[(3,(.v (.one (.ptr 2 0)))),(2,(.v (.one (.ptr 1 0)))),(0,(.v (.one (.ptr 0 0))))],[y4,y6,y2],60,none⟩))))))) (.br y9 (.need y8 (.fin (.pan (.ifc 163 .false [(.int .i64 5)])) [y10])) (.need y7 (.both (.need y5 (.need y3 (.need y1 (.need (I.hid (α:=(Prop)) True) (.code 0 [1,1,1,1,0,1,0] ⟨[(3,(.v (.one (.ptr 2 0)))),(2,(.v (.one (.ptr 1 0)))),(0,(.v (.one (.ptr 0 0))))],[y4,y6,y2],60,none⟩))))) (.need y5 (.need y3 (.need y1 (.need (I.hid (α:=(Prop)) True) (.code 0 [1,1,1,1,0,1,0] ⟨[(3,(.v (.one (.ptr 2 0)))),(2,(.v (.one (.ptr 1 0)))),(0,(.v (.one (.ptr 0 0))))],[y4,y6,y2],60,none⟩))))))))) (.need (I.hid (α:=(Prop)) True) (.code 0 [1,1,1,1,0,1,0] ⟨[(3,(.v (.one (.ptr 2 0)))),(2,(.v (.one (.ptr 1 0)))),(0,(.v (.one (.ptr 0 0))))],[(.pack [(.obj 167 [(.p (.str (I.hid (α:=Str) (skS y0))))])]),y6,(.obj 85 [(.p (.str (I.hid (α:=Str) (lowS y12)))),.nilS])],60,none⟩)))))))) (by kernel_rfl) ?_
  simp only [zn]
  have hh: ∀ {α:Type} (x:α),I.hid x=x:=by subst hI;intros;rfl
  have key : ∀ (w0 t0:Str),t0.length≤1000000→((medL (t0.length+1) t0 []).1,(⟨w0,(medL (t0.length+1) t0 []).2.1⟩:Med),(medL (t0.length+1) t0 []).2.2)=(0,⟨w,ps⟩,z)→Ok Tryz.prog X (fun o h=>o=AOut.ret (D.v (V0.agg [C.p (P.str w),C.p (P.list U.fld ps)]))∧h=[HO.pack [HO.obj 167 [C.p (P.str z)]]]) (leaf I tab { cfgM with lend:=[114],keep:=some [0,2,3,4,6]} [⟨xQ Tryz.f124,finK I tab { cfgM with lend:=[114],keep:=some [0,2,3,4,6]} 1 Tryz.f124⟩] 0 [1,1,1,1,0,1,0] ⟨[(3,.v (.one (.ptr 2 0))),(2,.v (.one (.ptr 1 0))),(0,.v (.one (.ptr 0 0)))],[.pack [.obj 167 [(.p (.str t0))]],.obj 85 [(.p (.str ([]))),.nilS],.obj 85 [(.p (.str w0)),.nilS]],60,none⟩):=by
    intro w0 t0 ht0 hm
    simp only [Prod.mk.injEq,Med.mk.injEq] at hm
    obtain⟨hm1,⟨rfl,hm2⟩,hm3⟩:=hm
    refine zu hI zi mixed [wF,wE,xu,xq,qA,qy,qx,qw,YQ,YP,TN,TM,Vf,Ve] hX [0,2,3] (fun(g:Str × List Fld)=>match g with|(t,l)=>t.length≤1000000∧l.length≤8∧∃ n,t.length<n∧medL n t l=(0,ps,z)) (fun(g:Str × List Fld)=>match g with|(t,l)=>⟨[(0,.v (.one (.ptr 0 0))),(2,.v (.one (.ptr 1 0))),(3,.v (.one (.ptr 2 0)))],[.pack [.obj 167 [(.p (.str t))]],.pack [.obj 85 [(.p (.str ([]))),(.row 1)],.row .fld 82 ([])],.pack [.obj 85 [(.p (.str w0)),(.row 1)],.row .fld 82 l]],60,none⟩) (fun(g:Str × List Fld)=>match g with|(t,l)=>t.length) (t0,[]) (by kernel_rfl) (by kernel_rfl) ?_ ?_
    · exact⟨ht0,by simp,t0.length+1,by omega,by rw [← hm1,← hm2,← hm3]⟩
    rintro⟨t,l⟩ ⟨ht,hl8,n,hn,hm⟩ A hA
    clear hm1 hm2 hm3 hr
    simp only at hA
    refine zh (let y0:=I.hid (α:=Str) (ite (Eq (zI t (UInt8.ofNat (Int.toNat (59:Int)))) Bool.true) (List.drop 1 t) t);let y1:=I.hid (α:=Str) (Fld.name (Prod.fst (Prod.snd (parM (I.hid (α:=Str) (skS y0))))));let y2:=I.hid (α:=Str) (Prod.snd (Prod.snd (parM (I.hid (α:=Str) (skS y0)))));let y3:=I.hid (α:=Str) (Fld.value (Prod.fst (Prod.snd (parM (I.hid (α:=Str) (skS y0))))));let y4:=I.hid (α:=Bool) (Prod.snd (getP l y1));let y5:HO:=.pack [(.obj 167 [(.p (.str y2))])];let y6:HO:=.pack [(.obj 167 [(.p (.str y0))])];.need (I.hid (α:=(Prop)) (And (LE.le (0:Int) (59:Int)) (LE.le (59:Int) (255:Int)))) (.br (I.hid (α:=Bool) (zI t (UInt8.ofNat (Int.toNat (59:Int))))) (.need (I.hid (α:=(Prop)) True) (.br (I.hid (α:=Bool) (Decidable.decide (Eq (Prod.fst (parM (I.hid (α:=Str) (skS y0)))) (0:Int)))) (.need (I.hid (α:=(Prop)) (And (LE.le (List.length (I.hid (α:=Str) (skS y0))) 1000000) (Eq (Prod.fst (parM (I.hid (α:=Str) (skS y0)))) (0:Int)))) (.need (I.hid (α:=(Prop)) (LE.le (List.length l) 1000000)) (.br (I.hid (α:=Bool) y4) (.need (I.hid (α:=(Prop)) (Eq y4 Bool.true)) (.fin (.pan (.ifc 163 .false [(.int .i64 9)])) [y5])) (.need (I.hid (α:=(Prop)) (Eq y4 Bool.false)) (.br (I.hid (α:=Bool) (I.ieq (I.len (α:=Fld) l) 8)) (.need (I.hid (α:=(Prop)) (Eq (I.ieq (I.len (α:=Fld) l) 8) Bool.true)) (.fin (.pan (.ifc 163 .false [(.int .i64 8)])) [y5])) (.need (I.hid (α:=(Prop)) (Eq (I.ieq (I.len (α:=Fld) l) 8) Bool.false)) (.need (I.few (I.add (I.len (α:=Fld) l) (I.len (α:=Fld) ([(Fld.mk y1 y3)]:List Fld))) 100000000) (.need (I.hid (α:=(Prop)) True) (.need (A ⟨[(0,(.v (.one (.ptr 0 0)))),(2,(.v (.one (.ptr 1 0)))),(3,(.v (.one (.ptr 2 0))))],[(.pack [(.obj 167 [(.p (.str (I.hid (α:=Str) (skS y2))))])]),(.pack [(.obj 85 [(.p (.str ([]:Str))),(.row 1)]),(.row .fld 82 ([]:List Fld))]),(.pack [(.obj 85 [(.p (.str w0)),(.row 1)]),(.row .fld 82 (I.app (α:=Fld) l ([(Fld.mk y1 y3)]:List Fld)))])],60,none⟩) .qed))))))))) (.need (I.hid (α:=(Prop)) (And (LE.le (List.length (I.hid (α:=Str) (skS y0))) 1000000) (Not (Eq (Prod.fst (parM (I.hid (α:=Str) (skS y0)))) (0:Int))))) (.fin (.pan (.ifc 163 .false [(.int .i64 (I.hid (α:=Int) (Prod.fst (parM (I.hid (α:=Str) (skS y0))))))])) [y5])))) (.br (I.hid (α:=Bool) (I.bnot (I.seq y0 ([]:Str)))) (.need (I.hid (α:=(Prop)) (Eq (I.bnot (I.seq y0 ([]:Str))) Bool.true)) (.fin (.pan (.ifc 163 .false [(.int .i64 5)])) [y6])) (.need (I.hid (α:=(Prop)) (Eq (I.bnot (I.seq y0 ([]:Str))) Bool.false)) (.fin (.ret (.v (.agg [(.p (.str w0)),(.p (.list .fld l))]))) [y6]))))) (by kernel_rfl) ?_
    simp only [zn]
    cases n with
    |zero=>omega
    |succ n=>
    simp only [medL] at hm
    have hgo:=hA (skS (parM (skS (t.drop 1))).2.2,l++[(parM (skS (t.drop 1))).2.1])
    have hpl:=TJ (skS (t.drop 1))
    have hpc:=Qu (skS (t.drop 1))
    have hsl:=xE (t.drop 1)
    have hsr:=xE (parM (skS (t.drop 1))).2.2
    rw [List.length_drop] at hsl
    clear hA
    simp only [hh,show UInt8.ofNat (Int.toNat 59)=59 from rfl]
    subst hI
    by_cases h59:zI t 59=true
    · have hpos:=UG h59
      simp only [h59,if_true] at hm ⊢
      have hgo2:(parM (skS (t.drop 1))).1=0→(getP l (parM (skS (t.drop 1))).2.1.name).2=false→¬ l.length=8→_:=fun h1 h2 h3=>hgo ⟨by simp only;omega,by simp only [List.length_append,List.length_cons,List.length_nil];omega,n,by simp only;omega,by
        rw [if_neg (fun h=>h h1),if_neg (by rw [h2];exact Bool.false_ne_true),if_neg h3] at hm;exact hm⟩ (by simp only;omega)
      clear hgo
      simp only at hgo2
      generalize parM (skS (t.drop 1))=p at *
      obtain⟨pc,⟨pn,pv⟩,pr⟩:=p
      simp only at hgo2 hm hpl hpc hsl hsr ⊢
      simp only [nrmA,nrmB,nrlB,reduceCtorEq,List.length_cons,List.length_nil]
      (repeat' (first|refine And.intro ?_ ?_|intro _))<;>first|omega|exact True.intro|exact False.elim ‹False›|skip
      all_goals first
        |omega
        |assumption
        | (by_cases hpz:pc=0
           · exact hpz
           · rw [if_pos hpz] at hm;simp only [Prod.mk.injEq] at hm;exact hm.1)
        |exact hgo2 ‹_› ‹_› (by omega)
        |(exfalso;rw [if_neg (fun h=>h ‹pc=0›),if_neg (by rw [‹(getP l pn).2=false›];exact Bool.false_ne_true),if_pos (by omega)] at hm;simp_all;done)
        |(rw [if_neg (fun h=>h ‹pc=0›),if_neg (by rw [‹(getP l pn).2=false›];exact Bool.false_ne_true),if_pos (by omega)] at hm;simp_all;done)
        |(exfalso;simp_all;done)
        |(simp_all;done)
    · have h59:zI t 59=false:=by simpa using h59
      simp only [h59,Bool.false_eq_true,if_false] at hm ⊢
      simp only [nrmA,nrmB,nrlB,reduceCtorEq,List.length_cons,List.length_nil]
      (repeat' (first|refine And.intro ?_ ?_|intro _))<;>first|omega|exact True.intro|exact False.elim ‹False›|skip
      all_goals first
        |omega
        |(exfalso;simp_all;done)
        |(simp_all;done)
        |(by_cases hte:t=[]<;>simp_all;done)
  have hl1:=xE s
  have hl2:=xU (skS s)
  have hl3:=yP (skS s)
  simp only [hh,show UInt8.ofNat (Int.toNat 47)=47 from rfl,decide_eq_true_eq,decide_eq_false_iff_not]
  unfold yB medA at hr
  generalize skS s=t at *
  have hl4:=yP ((tokE t).drop 1)
  have hl5:=xU ((tokE t).drop 1)
  rw [List.length_drop] at hl4 hl5
  (repeat' (first|refine And.intro ?_ ?_|intro _))
  all_goals try first|trivial|assumption|omega|(exfalso;simp_all;done)|(subst hI;(try(simp only [nrmA,nrmB,nrlB,reduceCtorEq,List.length_cons,List.length_nil,yS]))<;>first|omega|(simp_all [yS];done)|(simp_all [yS];omega))
  all_goals(have happ: ∀ a b:Str,I.app (α:=UInt8) a b=a++b:=by subst hI;intros;rfl)
  all_goals try simp only [happ]
  all_goals first
    | (rename_i q1 q2 q3
       rw [if_neg q1,if_pos q2] at hr
       simp only [q2,if_true] at q3 ⊢
       rw [if_neg q3] at hr
       have hsk:=xE (tokE ((tokE t).drop 1))
       exact key _ _ (by omega) hr)
    | (rename_i q1 q2
       rw [if_neg q1,if_neg (by simp [q2])] at hr
       simp only [q2,Bool.false_eq_true,if_false] at ⊢
       have hsk:=xE (tokE t)
       exact key _ _ (by omega) hr)
set_option maxHeartbeats 4000000 in
theorem zko (s:Str) (hneed:s.length≤1000000∧¬ (yB s).1=0):Spc Tryz.prog 124 [.v (.one (.ptr 0 0))] [.pack [.obj 167 [(.p (.str s))]]] (.pan (.ifc 163 false [(.int .i64 ((yB s).1))])) [.pack [.obj 167 [(.p (.str ((yB s).2.2)))]]]:=by
  obtain⟨hl,hc⟩:=hneed
  generalize hr:yB s=r at hc
  obtain⟨c,⟨w,ps⟩,z⟩:=r
  simp only at hc
  refine spcG zi mixed Tryz.func124 (by kernel_rfl) { cfgM with lend:=[114],keep:=some [0,2,3,4,6]} [wF,wE,xu,xq,qA,qy,qx,qw,YQ,YP,TN,TM,Vf,Ve] (by kernel_rfl) ?_
  intro I X hI hX
  refine zh (let y11:=I.hid (α:=Str) (tokE (I.hid (α:=Str) (skS s)));let y0:=I.hid (α:=Str) (ite (Eq (zI y11 (UInt8.ofNat (Int.toNat (47:Int)))) Bool.true) (List.drop 1 y11) y11);let y12:=I.hid (α:=Str) (tokS (I.hid (α:=Str) (skS s)));let y1:=I.few (I.add (I.len (α:=UInt8) (I.hid (α:=Str) (lowS y12))) (I.len (α:=UInt8) (I.app (α:=UInt8) ([47]:Str) (I.hid (α:=Str) (lowS (I.hid (α:=Str) (tokS y0))))))) 1000000000;let y2:HO:=.obj 85 [(.p (.str (I.app (α:=UInt8) (I.hid (α:=Str) (lowS y12)) (I.app (α:=UInt8) ([47]:Str) (I.hid (α:=Str) (lowS (I.hid (α:=Str) (tokS y0)))))))),.nilS];let y3:=I.few (I.add (I.len (α:=UInt8) ([47]:Str)) (I.len (α:=UInt8) (I.hid (α:=Str) (lowS (I.hid (α:=Str) (tokS y0)))))) 1000000000;let y4:HO:=.pack [(.obj 167 [(.p (.str (I.hid (α:=Str) (skS (I.hid (α:=Str) (tokE y0))))))])];let y5:=I.hid (α:=(Prop)) (LE.le (List.length (I.hid (α:=Str) (tokS y0))) 1000000);let y6:HO:=.obj 85 [(.p (.str ([]:Str))),.nilS];let y7:=I.hid (α:=(Prop)) (And (LE.le (List.length y0) 1000000) (Not (Eq (tokS y0) ([]:Str))));let y8:=I.hid (α:=(Prop)) (And (LE.le (List.length y0) 1000000) (Eq (tokS y0) ([]:Str)));let y9:=I.hid (α:=Bool) (Decidable.decide (Eq (tokS y0) ([]:Str)));let y10:HO:=.pack [(.obj 167 [(.p (.str (I.hid (α:=Str) (tokE y0))))])];.need (I.hid (α:=(Prop)) True) (.br (I.hid (α:=Bool) (Decidable.decide (Eq (tokS (I.hid (α:=Str) (skS s))) ([]:Str)))) (.need (I.hid (α:=(Prop)) (And (LE.le (List.length (I.hid (α:=Str) (skS s))) 1000000) (Eq (tokS (I.hid (α:=Str) (skS s))) ([]:Str)))) (.fin (.pan (.ifc 163 .false [(.int .i64 5)])) [(.pack [(.obj 167 [(.p (.str y11))])])])) (.need (I.hid (α:=(Prop)) (And (LE.le (List.length (I.hid (α:=Str) (skS s))) 1000000) (Not (Eq (tokS (I.hid (α:=Str) (skS s))) ([]:Str))))) (.need (I.hid (α:=(Prop)) (LE.le (List.length y12) 1000000)) (.need (I.hid (α:=(Prop)) (And (LE.le (0:Int) (47:Int)) (LE.le (47:Int) (255:Int)))) (.br (I.hid (α:=Bool) (zI y11 (UInt8.ofNat (Int.toNat (47:Int))))) (.both (.br y9 (.need y8 (.fin (.pan (.ifc 163 .false [(.int .i64 5)])) [y10])) (.need y7 (.need y5 (.need y3 (.need y1 (.need (I.hid (α:=(Prop)) True) (.code 0 [1,1,1,1,0,1,0] ⟨[(3,(.v (.one (.ptr 2 0)))),(2,(.v (.one (.ptr 1 0)))),(0,(.v (.one (.ptr 0 0))))],[y4,y6,y2],60,none⟩))))))) (.br y9 (.need y8 (.fin (.pan (.ifc 163 .false [(.int .i64 5)])) [y10])) (.need y7 (.both (.need y5 (.need y3 (.need y1 (.need (I.hid (α:=(Prop)) True) (.code 0 [1,1,1,1,0,1,0] ⟨[(3,(.v (.one (.ptr 2 0)))),(2,(.v (.one (.ptr 1 0)))),(0,(.v (.one (.ptr 0 0))))],[y4,y6,y2],60,none⟩))))) (.need y5 (.need y3 (.need y1 (.need (I.hid (α:=(Prop)) True) (.code 0 [1,1,1,1,0,1,0] ⟨[(3,(.v (.one (.ptr 2 0)))),(2,(.v (.one (.ptr 1 0)))),(0,(.v (.one (.ptr 0 0))))],[y4,y6,y2],60,none⟩))))))))) (.need (I.hid (α:=(Prop)) True) (.code 0 [1,1,1,1,0,1,0] ⟨[(3,(.v (.one (.ptr 2 0)))),(2,(.v (.one (.ptr 1 0)))),(0,(.v (.one (.ptr 0 0))))],[(.pack [(.obj 167 [(.p (.str (I.hid (α:=Str) (skS y0))))])]),y6,(.obj 85 [(.p (.str (I.hid (α:=Str) (lowS y12)))),.nilS])],60,none⟩)))))))) (by kernel_rfl) ?_
  simp only [zn]
  have hh: ∀ {α:Type} (x:α),I.hid x=x:=by subst hI;intros;rfl
  have key : ∀ (w0 t0:Str),t0.length≤1000000→((medL (t0.length+1) t0 []).1,(⟨w0,(medL (t0.length+1) t0 []).2.1⟩:Med),(medL (t0.length+1) t0 []).2.2)=(c,⟨w,ps⟩,z)→Ok Tryz.prog X (fun o h=>o=AOut.pan (C.ifc 163 false [P.int IntKind.i64 c])∧h=[HO.pack [HO.obj 167 [C.p (P.str z)]]]) (leaf I tab { cfgM with lend:=[114],keep:=some [0,2,3,4,6]} [⟨xQ Tryz.f124,finK I tab { cfgM with lend:=[114],keep:=some [0,2,3,4,6]} 1 Tryz.f124⟩] 0 [1,1,1,1,0,1,0] ⟨[(3,.v (.one (.ptr 2 0))),(2,.v (.one (.ptr 1 0))),(0,.v (.one (.ptr 0 0)))],[.pack [.obj 167 [(.p (.str t0))]],.obj 85 [(.p (.str ([]))),.nilS],.obj 85 [(.p (.str w0)),.nilS]],60,none⟩):=by
    intro w0 t0 ht0 hm
    simp only [Prod.mk.injEq,Med.mk.injEq] at hm
    obtain⟨hm1,⟨rfl,hm2⟩,hm3⟩:=hm
    refine zu hI zi mixed [wF,wE,xu,xq,qA,qy,qx,qw,YQ,YP,TN,TM,Vf,Ve] hX [0,2,3] (fun(g:Str × List Fld)=>match g with|(t,l)=>t.length≤1000000∧l.length≤8∧∃ n,t.length<n∧medL n t l=(c,ps,z)) (fun(g:Str × List Fld)=>match g with|(t,l)=>⟨[(0,.v (.one (.ptr 0 0))),(2,.v (.one (.ptr 1 0))),(3,.v (.one (.ptr 2 0)))],[.pack [.obj 167 [(.p (.str t))]],.pack [.obj 85 [(.p (.str ([]))),(.row 1)],.row .fld 82 ([])],.pack [.obj 85 [(.p (.str w0)),(.row 1)],.row .fld 82 l]],60,none⟩) (fun(g:Str × List Fld)=>match g with|(t,l)=>t.length) (t0,[]) (by kernel_rfl) (by kernel_rfl) ?_ ?_
    · exact⟨ht0,by simp,t0.length+1,by omega,by rw [← hm1,← hm2,← hm3]⟩
    rintro⟨t,l⟩ ⟨ht,hl8,n,hn,hm⟩ A hA
    clear hm1 hm2 hm3 hr
    simp only at hA
    refine zh (let y0:=I.hid (α:=Str) (ite (Eq (zI t (UInt8.ofNat (Int.toNat (59:Int)))) Bool.true) (List.drop 1 t) t);let y1:=I.hid (α:=Str) (Fld.name (Prod.fst (Prod.snd (parM (I.hid (α:=Str) (skS y0))))));let y2:=I.hid (α:=Str) (Prod.snd (Prod.snd (parM (I.hid (α:=Str) (skS y0)))));let y3:=I.hid (α:=Str) (Fld.value (Prod.fst (Prod.snd (parM (I.hid (α:=Str) (skS y0))))));let y4:=I.hid (α:=Bool) (Prod.snd (getP l y1));let y5:HO:=.pack [(.obj 167 [(.p (.str y2))])];let y6:HO:=.pack [(.obj 167 [(.p (.str y0))])];.need (I.hid (α:=(Prop)) (And (LE.le (0:Int) (59:Int)) (LE.le (59:Int) (255:Int)))) (.br (I.hid (α:=Bool) (zI t (UInt8.ofNat (Int.toNat (59:Int))))) (.need (I.hid (α:=(Prop)) True) (.br (I.hid (α:=Bool) (Decidable.decide (Eq (Prod.fst (parM (I.hid (α:=Str) (skS y0)))) (0:Int)))) (.need (I.hid (α:=(Prop)) (And (LE.le (List.length (I.hid (α:=Str) (skS y0))) 1000000) (Eq (Prod.fst (parM (I.hid (α:=Str) (skS y0)))) (0:Int)))) (.need (I.hid (α:=(Prop)) (LE.le (List.length l) 1000000)) (.br (I.hid (α:=Bool) y4) (.need (I.hid (α:=(Prop)) (Eq y4 Bool.true)) (.fin (.pan (.ifc 163 .false [(.int .i64 9)])) [y5])) (.need (I.hid (α:=(Prop)) (Eq y4 Bool.false)) (.br (I.hid (α:=Bool) (I.ieq (I.len (α:=Fld) l) 8)) (.need (I.hid (α:=(Prop)) (Eq (I.ieq (I.len (α:=Fld) l) 8) Bool.true)) (.fin (.pan (.ifc 163 .false [(.int .i64 8)])) [y5])) (.need (I.hid (α:=(Prop)) (Eq (I.ieq (I.len (α:=Fld) l) 8) Bool.false)) (.need (I.few (I.add (I.len (α:=Fld) l) (I.len (α:=Fld) ([(Fld.mk y1 y3)]:List Fld))) 100000000) (.need (I.hid (α:=(Prop)) True) (.need (A ⟨[(0,(.v (.one (.ptr 0 0)))),(2,(.v (.one (.ptr 1 0)))),(3,(.v (.one (.ptr 2 0))))],[(.pack [(.obj 167 [(.p (.str (I.hid (α:=Str) (skS y2))))])]),(.pack [(.obj 85 [(.p (.str ([]:Str))),(.row 1)]),(.row .fld 82 ([]:List Fld))]),(.pack [(.obj 85 [(.p (.str w0)),(.row 1)]),(.row .fld 82 (I.app (α:=Fld) l ([(Fld.mk y1 y3)]:List Fld)))])],60,none⟩) .qed))))))))) (.need (I.hid (α:=(Prop)) (And (LE.le (List.length (I.hid (α:=Str) (skS y0))) 1000000) (Not (Eq (Prod.fst (parM (I.hid (α:=Str) (skS y0)))) (0:Int))))) (.fin (.pan (.ifc 163 .false [(.int .i64 (I.hid (α:=Int) (Prod.fst (parM (I.hid (α:=Str) (skS y0))))))])) [y5])))) (.br (I.hid (α:=Bool) (I.bnot (I.seq y0 ([]:Str)))) (.need (I.hid (α:=(Prop)) (Eq (I.bnot (I.seq y0 ([]:Str))) Bool.true)) (.fin (.pan (.ifc 163 .false [(.int .i64 5)])) [y6])) (.need (I.hid (α:=(Prop)) (Eq (I.bnot (I.seq y0 ([]:Str))) Bool.false)) (.fin (.ret (.v (.agg [(.p (.str w0)),(.p (.list .fld l))]))) [y6]))))) (by kernel_rfl) ?_
    simp only [zn]
    cases n with
    |zero=>omega
    |succ n=>
    simp only [medL] at hm
    have hgo:=hA (skS (parM (skS (t.drop 1))).2.2,l++[(parM (skS (t.drop 1))).2.1])
    have hpl:=TJ (skS (t.drop 1))
    have hpc:=Qu (skS (t.drop 1))
    have hsl:=xE (t.drop 1)
    have hsr:=xE (parM (skS (t.drop 1))).2.2
    rw [List.length_drop] at hsl
    clear hA
    simp only [hh,show UInt8.ofNat (Int.toNat 59)=59 from rfl]
    subst hI
    by_cases h59:zI t 59=true
    · have hpos:=UG h59
      simp only [h59,if_true] at hm ⊢
      have hgo2:(parM (skS (t.drop 1))).1=0→(getP l (parM (skS (t.drop 1))).2.1.name).2=false→¬ l.length=8→_:=fun h1 h2 h3=>hgo ⟨by simp only;omega,by simp only [List.length_append,List.length_cons,List.length_nil];omega,n,by simp only;omega,by
        rw [if_neg (fun h=>h h1),if_neg (by rw [h2];exact Bool.false_ne_true),if_neg h3] at hm;exact hm⟩ (by simp only;omega)
      clear hgo
      simp only at hgo2
      generalize parM (skS (t.drop 1))=p at *
      obtain⟨pc,⟨pn,pv⟩,pr⟩:=p
      simp only at hgo2 hm hpl hpc hsl hsr ⊢
      simp only [nrmA,nrmB,nrlB,reduceCtorEq,List.length_cons,List.length_nil]
      (repeat' (first|refine And.intro ?_ ?_|intro _))<;>first|omega|exact True.intro|exact False.elim ‹False›|skip
      all_goals first
        |omega
        |assumption
        | (by_cases hpz:pc=0
           · exact hpz
           · rw [if_pos hpz] at hm;simp only [Prod.mk.injEq] at hm;exact hm.1)
        |exact hgo2 ‹_› ‹_› (by omega)
        |(exfalso;rw [if_neg (fun h=>h ‹pc=0›),if_neg (by rw [‹(getP l pn).2=false›];exact Bool.false_ne_true),if_pos (by omega)] at hm;simp_all;done)
        |(rw [if_neg (fun h=>h ‹pc=0›),if_neg (by rw [‹(getP l pn).2=false›];exact Bool.false_ne_true),if_pos (by omega)] at hm;simp_all;done)
        |(exfalso;simp_all;done)
        |(simp_all;done)
    · have h59:zI t 59=false:=by simpa using h59
      simp only [h59,Bool.false_eq_true,if_false] at hm ⊢
      simp only [nrmA,nrmB,nrlB,reduceCtorEq,List.length_cons,List.length_nil]
      (repeat' (first|refine And.intro ?_ ?_|intro _))<;>first|omega|exact True.intro|exact False.elim ‹False›|skip
      all_goals first
        |omega
        |(exfalso;simp_all;done)
        |(simp_all;done)
        |(by_cases hte:t=[]<;>simp_all;done)
  have hl1:=xE s
  have hl2:=xU (skS s)
  have hl3:=yP (skS s)
  simp only [hh,show UInt8.ofNat (Int.toNat 47)=47 from rfl,decide_eq_true_eq,decide_eq_false_iff_not]
  unfold yB medA at hr
  generalize skS s=t at *
  have hl4:=yP ((tokE t).drop 1)
  have hl5:=xU ((tokE t).drop 1)
  rw [List.length_drop] at hl4 hl5
  (repeat' (first|refine And.intro ?_ ?_|intro _))
  all_goals try first|trivial|assumption|omega|(exfalso;simp_all;done)|(subst hI;(try(simp only [nrmA,nrmB,nrlB,reduceCtorEq,List.length_cons,List.length_nil,yS]))<;>first|omega|(simp_all [yS];done)|(simp_all [yS];omega))
  all_goals(have happ: ∀ a b:Str,I.app (α:=UInt8) a b=a++b:=by subst hI;intros;rfl)
  all_goals try simp only [happ]
  all_goals first
    | (rename_i q1 q2 q3
       rw [if_neg q1,if_pos q2] at hr
       simp only [q2,if_true] at q3 ⊢
       rw [if_neg q3] at hr
       have hsk:=xE (tokE ((tokE t).drop 1))
       exact key _ _ (by omega) hr)
    | (rename_i q1 q2
       rw [if_neg q1,if_neg (by simp [q2])] at hr
       simp only [q2,Bool.false_eq_true,if_false] at ⊢
       have hsk:=xE (tokE t)
       exact key _ _ (by omega) hr)
def TQ (I:Alg) (args:List D) (hp:List HO):Option CT:=match args,hp with
  |[.v (.one (.ptr 0 0))],[.pack [.obj 167 [(.p (.str s))]]]=>(fun(s:Str)=>(some (.br (I.hid (decide ((yB s).1=0))) (.one ⟨I.hid (s.length≤1000000∧(yB s).1=0),(.ret (.v (.agg [(.p (.str (I.hid ((yB s).2.1.word)))),(.p (.list .fld (I.hid ((yB s).2.1.params))))]))),[.pack [.obj 167 [(.p (.str (I.hid ((yB s).2.2))))]]]⟩) (.one ⟨I.hid (s.length≤1000000∧¬ (yB s).1=0),(.pan (.ifc 163 false [(.int .i64 (I.hid ((yB s).1)))])),[.pack [.obj 167 [(.p (.str (I.hid ((yB s).2.2))))]]]⟩)):Option CT)) s
  |_,_=>none
theorem zeX:zy Tryz.prog 124 (TQ alg):=by
  intro args hp r h
  unfold TQ at h
  split at h
  · cases h;exact⟨fun _ hn=>zkp _ hn,fun _ hn=>zko _ hn⟩
  · cases h
def ziY:Know Tryz.prog:=⟨124,TQ,zeX⟩
def ziX:Know Tryz.prog:=⟨124,fun I=>zA I (TQ I),zf zeX⟩
end Go.Proofs.YtknaogelmckimaaGreatDoor
namespace Go.Proofs.YtknaogelmckimaaGreatDoor
open Go Go.Sep Go.Ab
set_option maxRecDepth 100000
theorem zku (w:Str) (l:List Fld) (n:Int) (s:Str):SpcD Tryz.prog 123 [.ptr 0 0,.ptr 1 0] .ret [.obj 85 [.p (.str w),.p (.list .fld l)],.obj 3 [.p (.int .i64 n)],.pack [.obj 167 [.p (.str s)]]] .ret [.obj 85 [.p (.str w),.p (.list .fld l)],.obj 3 [.p (.int .i64 n)],.obj 167 [.p (.str s)]]:=by
  refine Ug zi mixed Tryz.func123 (by kernel_rfl) { flat:=true} [] (rest:=_) rfl (by kernel_rfl) ?_
  intro I X hI hX
  refine zh (.fin (.ret (.tup [])) [(.obj 85 [(.p (.str w)),(.p (.list .fld l))]),(.obj 3 [(.p (.int .i64 n))]),(.obj 167 [(.p (.str s))])]) (by kernel_rfl) ?_
  simp only [zn]
  try trivial
theorem zkt (w:Str) (n k:Int) (s:Str):SpcD Tryz.prog 123 [.ptr 0 0,.ptr 1 0] (.pan (.ifc 163 false [.int .i64 k])) [.obj 85 [.p (.str w),.nilS],.obj 3 [.p (.int .i64 n)],.pack [.obj 167 [.p (.str s)]]] .ret [.obj 85 [.p (.str []),.nilS],.obj 3 [.p (.int .i64 k)],.obj 167 [.p (.str s)]]:=by
  refine Ug zi mixed Tryz.func123 (by kernel_rfl) { flat:=true} [] (rest:=_) rfl (by kernel_rfl) ?_
  intro I X hI hX
  refine zh (.fin (.ret (.tup [])) [(.obj 85 [(.p (.str ([]:Str))),.nilS]),(.obj 3 [(.p (.int .i64 k))]),(.obj 167 [(.p (.str s))])]) (by kernel_rfl) ?_
  simp only [zn]
  try trivial
def zlj:Door Tryz.prog where
  g:=123
  c :=fun _ m caps hp=>match m,caps,hp with
    |.ret,[.ptr 0 0,.ptr 1 0],[.obj 85 [.p (.str w),.p (.list .fld l)],.obj 3 [.p (.int .i64 n)],.pack [.obj 167 [.p (.str s)]]]=>some (True,.ret,[.obj 85 [.p (.str w),.p (.list .fld l)],.obj 3 [.p (.int .i64 n)],.obj 167 [.p (.str s)]])
    |.pan (.ifc 163 false [.int .i64 k]),[.ptr 0 0,.ptr 1 0],[.obj 85 [.p (.str w),.nilS],.obj 3 [.p (.int .i64 n)],.pack [.obj 167 [.p (.str s)]]]=>some (True,.ret,[.obj 85 [.p (.str []),.nilS],.obj 3 [.p (.int .i64 k)],.obj 167 [.p (.str s)]])
    |_,_,_=>none
  ok:=by
    intro m caps hp p m' hp' h _
    split at h
    · cases h;exact zku _ _ _ _
    · cases h;exact zkt _ _ _ _
    · cases h
theorem ziW (s:Str) (hneed:s.length≤1000000):Spc Tryz.prog 113 [.v (.one (.p (.str s)))] [] (.ret (.tup [(.agg [(.p (.str ((zX s).1.word))),(.p (.list .fld ((zX s).1.params)))]),(.one (.p (.int .i64 ((zX s).2))))])) []:=by
  generalize hr:zX s=r
  obtain⟨⟨w,ps⟩,c⟩:=r
  unfold zX at hr
  refine zlg zi mixed Tryz.func113 (by kernel_rfl) { cfgM with keep:=some [0,2,3,4]} [rW,rV,ziY,ziX] zlj (by kernel_rfl) ?_
  intro I X hI hX
  refine zh (.need (I.hid (α:=(Prop)) (LE.le (List.length s) 1000000)) (.br (I.bnot (I.hid (α:=Bool) (wH s))) (.fin (.ret (.tup [(.agg [(.p (.str ([]:Str))),(.p (.list .fld ([]:List Fld)))]),(.one (.p (.int .i64 3)))])) []) (.br (I.hid (α:=Bool) (Decidable.decide (Eq (Prod.fst (yB s)) (0:Int)))) (.need (I.hid (α:=(Prop)) (And (LE.le (List.length s) 1000000) (Eq (Prod.fst (yB s)) (0:Int)))) (.need True (.fin (.ret (.tup [(.agg [(.p (.str (I.hid (α:=Str) (Go.Ab.Med.word (Prod.fst (Prod.snd (yB s))))))),(.p (.list .fld (I.hid (α:=(List Fld)) (Go.Ab.Med.params (Prod.fst (Prod.snd (yB s)))))))]),(.one (.p (.int .i64 0)))])) []))) (.need (I.hid (α:=(Prop)) (And (LE.le (List.length s) 1000000) (Not (Eq (Prod.fst (yB s)) (0:Int))))) (.need True (.fin (.ret (.tup [(.agg [(.p (.str ([]:Str))),(.p (.list .fld ([]:List Fld)))]),(.one (.p (.int .i64 (I.hid (α:=Int) (Prod.fst (yB s))))))])) [])))))) (by kernel_rfl) ?_
  simp only [zn]
  subst hI
  simp only [nrmA,nrmB,nrlB,reduceCtorEq,V0.agg.injEq]
  (repeat' (first|refine And.intro ?_ ?_|intro _))<;>first|omega|exact True.intro|exact False.elim ‹False›|skip
  all_goals first|(simp_all;done)|trace_state
def ZR (I:Alg) (args:List D) (hp:List HO):Option CT:=match args,hp with
  |[.v (.one (.p (.str s)))],[]=>(fun(s:Str)=>(some (.one ⟨I.hid (s.length≤1000000),(.ret (.tup [(.agg [(.p (.str (I.hid ((zX s).1.word)))),(.p (.list .fld (I.hid ((zX s).1.params))))]),(.one (.p (.int .i64 (I.hid ((zX s).2)))))])),[]⟩):Option CT)) s
  |_,_=>none
theorem Qw:zy Tryz.prog 113 (ZR alg):=by
  intro args hp r h
  unfold ZR at h
  split at h
  · cases h;exact fun hn=>ziW _ hn
  · cases h
def zeV:Know Tryz.prog:=⟨113,ZR,Qw⟩
def zeU:Know Tryz.prog:=⟨113,fun I=>zA I (ZR I),zf Qw⟩
end Go.Proofs.YtknaogelmckimaaGreatDoor
namespace Go.Proofs.YtknaogelmckimaaGreatDoor
open Go Go.Sep Go.Ab
set_option maxRecDepth 100000
theorem TG: ∀ (n:Nat) (r:Str),r.length≤n→∀ v,pctM r=some v→v.length≤r.length
  |n,[],_,v,h=>by rw [pctM] at h;cases h;exact Nat.le_refl _
  |0,c::r,h,_,_=>by simp at h
  | n + 1,c::r,hl,v,h=>by
    rw [List.length_cons] at hl
    rw [pctM.eq_def] at h
    simp only at h
    split at h
    · cases hp:pctM r with
      |none=>rw [hp] at h;cases h
      | some u=>
        rw [hp] at h;cases h
        have:=TG n r (by omega) u hp
        simp only [List.length_cons];omega
    · split at h
      · rename_i a b r'
        split at h
        · cases h
        · cases hp:pctM r' with
          |none=>rw [hp] at h;cases h
          | some u=>
            rw [hp] at h;cases h
            have:=TG n r' (by simp only [List.length_cons] at hl;omega) u hp
            simp only [List.length_cons];omega
      · cases h
theorem zhH (s:Str):(extV s).length≤s.length:=by
  unfold extV extM
  split
  · simp
  · cases h:pctM (s.drop 7) with
    |none=>simp
    | some v=>
      have:=TG _ _ (Nat.le_refl _) v h
      rw [List.length_drop] at this
      simp only [Option.getD_some];omega
def PsOk (N:Nat) (l:List Fld):Prop:=l.length≤8∧∀ f ∈ l,f.value.length≤N
theorem ze8 (N:Nat): ∀ (n:Nat) (s:Str) (ps:List Fld),s.length≤N→PsOk N ps→PsOk N (medL n s ps).2.1
  |0,s,ps,_,h=>h
  | n + 1, s,ps,hs,h=>by
    rw [medL]
    have h1:=xE (s.drop 1)
    have h2:=TJ (skS (s.drop 1))
    have h3:=xE (parM (skS (s.drop 1))).2.2
    rw [List.length_drop] at h1
    split
    · split
      · exact h
      · split
        · exact h
        · split
          · exact h
          · rename_i h8
            refine ze8 N n _ _ (by omega) ⟨by rw [List.length_append,List.length_singleton];have:=h.1;omega,fun f hf=> ?_⟩
            rcases List.mem_append.1 hf with h5|h5
            · exact h.2 f h5
            · rw [List.mem_singleton.1 h5];omega
    · split<;>exact h
theorem Qr (s:Str):PsOk s.length (zX s).1.params:=by
  have h0:PsOk s.length []:=⟨by decide,fun f h=>by cases h⟩
  have hb: ∀ w t:Str,t.length≤s.length→PsOk s.length (medB w t).2.1.params:=fun w t ht=>by
    have h1:=xE t
    exact ze8 s.length _ _ [] (by omega) h0
  have h1:=xE s
  have h2:=xU (skS s)
  have h3:=xU ((tokE (skS s)).drop 1)
  rw [List.length_drop] at h3
  have hm:PsOk s.length (yB s).2.1.params:=by
    unfold yB medA
    split
    · exact h0
    · split
      · split
        · exact h0
        · exact hb _ _ (by omega)
      · exact hb _ _ (by omega)
  unfold zX
  split
  · exact h0
  · split
    · exact hm
    · exact h0
theorem zcR {N:Nat} {l:List Fld} (h: ∀ f ∈ l,f.value.length≤N) (n:Str):(getP l n).1.length≤N:=by
  unfold getP
  cases hf:l.find? (fun f=>f.name == n) with
  |none=>simp
  |some f=>exact h f (List.mem_of_find?_eq_some hf)
theorem zcx {N:Nat} {l:List Fld} (h: ∀ f ∈ l,f.value.length≤N) (n:Str):(oneF (valsF l n)).1.length≤N:=by
  unfold oneF
  split
  · simp
  · split
    · rename_i h1
      match hv:valsF l n,h1 with
      | [x],_=>
        have:x ∈ valsF l n:=by rw [hv];exact List.mem_singleton.2 rfl
        unfold valsF at this
        obtain⟨f,hf,rfl⟩:=List.mem_map.1 this
        exact h f (List.mem_filter.1 hf).1
    · simp
theorem zkZ (l:List Fld) (hneed:l.length≤1000∧∀ f ∈ l,f.name.length≤1000000∧f.value.length≤1000000):Spc Tryz.prog 97 [.v (.one (.p (.list .fld l)))] [] (.ret (.tup [(.agg [(.p (.str ((zM l).1.name))),(.p (.str ((zM l).1.file))),(.p (.str ((zM l).1.type))),.nilS]),(.one (.p (.int .i64 ((zM l).2))))])) []:=by
  obtain⟨hl,hf⟩:=hneed
  generalize hr:zM l=r
  refine spcG zi mixed Tryz.func97 (by kernel_rfl) { raw:=true,keep:=some [0,2,3,4,5,6,7,8,9,10,11,12,13,77]} [zjK,zjJ,zjM,zjL,zc7,zc6,Vf,Ve,zeV,zeU] (by kernel_rfl) ?_
  intro I X hI hX
  refine zh (let y3:=([99,111,110,116,101,110,116,45,100,105,115,112,111,115,105,116,105,111,110]:Str);let y8:=I.hid (α:=Str) (Prod.fst (oneF (valsF l y3)));let y0:=I.hid (α:=(List Fld)) (Go.Ab.Med.params (Prod.fst (zX y8)));let y1:=I.hid (α:=Int) (Prod.snd (oneF (valsF l ([99,111,110,116,101,110,116,45,116,121,112,101]:Str))));let y2:=I.hid (α:=(Prop)) (And (LE.le (List.length l) 1000) (And (LE.le (List.length ([99,111,110,116,101,110,116,45,116,121,112,101]:Str)) 1000000) (∀ (f:Fld),f ∈ l→List.length f.name≤1000000∧List.length f.value≤1000000)));let y4:=I.hid (α:=Str) (Prod.fst (getP y0 ([110,97,109,101]:Str)));let y5:=I.hid (α:=Str) (Prod.fst (getP y0 ([102,105,108,101,110,97,109,101,42]:Str)));let y6:=I.hid (α:=Str) (Prod.fst (oneF (valsF l ([99,111,110,116,101,110,116,45,116,121,112,101]:Str))));let y7:=I.hid (α:=Str) (Prod.fst (getP y0 ([102,105,108,101,110,97,109,101]:Str)));let y9:=I.hid (α:=(Prop)) (LE.le (List.length y0) 1000000);let y10:=I.hid (α:=Str) (vI (I.hid (α:=Str) (extV y5)));let y11:=I.hid (α:=Int) (Prod.snd (oneF (valsF l y3)));let y12:=I.hid (α:=Int) (Prod.snd (zX y8));.need (I.hid (α:=(Prop)) (And (LE.le (List.length l) 1000) (And (LE.le (List.length y3) 1000000) (∀ (f:Fld),f ∈ l→List.length f.name≤1000000∧List.length f.value≤1000000)))) (.br (I.bnot (I.ieq y11 0)) (.fin (.ret (.tup [(.agg [(.p (.str ([]:Str))),(.p (.str ([]:Str))),(.p (.str ([]:Str))),.nilS]),(.one (.p (.int .i64 y11)))])) []) (.need (I.hid (α:=(Prop)) (LE.le (List.length y8) 1000000)) (.br (I.bnot (I.ieq y12 0)) (.fin (.ret (.tup [(.agg [(.p (.str ([]:Str))),(.p (.str ([]:Str))),(.p (.str ([]:Str))),.nilS]),(.one (.p (.int .i64 y12)))])) []) (.br (I.bnot (I.seq (I.hid (α:=Str) (Go.Ab.Med.word (Prod.fst (zX y8)))) ([102,111,114,109,45,100,97,116,97]:Str))) (.fin (.ret (.tup [(.agg [(.p (.str ([]:Str))),(.p (.str ([]:Str))),(.p (.str ([]:Str))),.nilS]),(.one (.p (.int .i64 11)))])) []) (.need y9 (.br (I.bnot (I.hid (α:=Bool) (Prod.snd (getP y0 ([110,97,109,101]:Str))))) (.fin (.ret (.tup [(.agg [(.p (.str ([]:Str))),(.p (.str ([]:Str))),(.p (.str ([]:Str))),.nilS]),(.one (.p (.int .i64 6)))])) []) (.need y9 (.need y9 (.br (I.hid (α:=Bool) (Prod.snd (getP y0 ([102,105,108,101,110,97,109,101,42]:Str)))) (.need (I.hid (α:=(Prop)) (LE.le (List.length y5) 1000000)) (.br (I.bnot (I.hid (α:=Bool) (extB y5))) (.fin (.ret (.tup [(.agg [(.p (.str ([]:Str))),(.p (.str ([]:Str))),(.p (.str ([]:Str))),.nilS]),(.one (.p (.int .i64 5)))])) []) (.br (I.hid (α:=Bool) (extB y5)) (.need (I.hid (α:=(Prop)) (LE.le (List.length (I.hid (α:=Str) (extV y5))) 1000000)) (.need y2 (.br (I.ieq y1 0) (.fin (.ret (.tup [(.agg [(.p (.str y4)),(.p (.str y10)),(.p (.str y6)),.nilS]),(.one (.p (.int .i64 0)))])) []) (.br (I.ieq y1 9) (.fin (.ret (.tup [(.agg [(.p (.str ([]:Str))),(.p (.str ([]:Str))),(.p (.str ([]:Str))),.nilS]),(.one (.p (.int .i64 y1)))])) []) (.fin (.ret (.tup [(.agg [(.p (.str y4)),(.p (.str y10)),(.p (.str ([]:Str))),.nilS]),(.one (.p (.int .i64 0)))])) []))))) (.need y2 (.br (I.ieq y1 0) (.fin (.ret (.tup [(.agg [(.p (.str y4)),(.p (.str ([]:Str))),(.p (.str y6)),.nilS]),(.one (.p (.int .i64 0)))])) []) (.br (I.ieq y1 9) (.fin (.ret (.tup [(.agg [(.p (.str ([]:Str))),(.p (.str ([]:Str))),(.p (.str ([]:Str))),.nilS]),(.one (.p (.int .i64 y1)))])) []) (.fin (.ret (.tup [(.agg [(.p (.str y4)),(.p (.str ([]:Str))),(.p (.str ([]:Str))),.nilS]),(.one (.p (.int .i64 0)))])) []))))))) (.br (I.hid (α:=Bool) (Prod.snd (getP y0 ([102,105,108,101,110,97,109,101]:Str)))) (.need (I.hid (α:=(Prop)) (LE.le (List.length y7) 1000000)) (.need y2 (.br (I.ieq y1 0) (.fin (.ret (.tup [(.agg [(.p (.str y4)),(.p (.str (I.hid (α:=Str) (vI y7)))),(.p (.str y6)),.nilS]),(.one (.p (.int .i64 0)))])) []) (.br (I.ieq y1 9) (.fin (.ret (.tup [(.agg [(.p (.str ([]:Str))),(.p (.str ([]:Str))),(.p (.str ([]:Str))),.nilS]),(.one (.p (.int .i64 y1)))])) []) (.fin (.ret (.tup [(.agg [(.p (.str y4)),(.p (.str (I.hid (α:=Str) (vI y7)))),(.p (.str ([]:Str))),.nilS]),(.one (.p (.int .i64 0)))])) []))))) (.need y2 (.br (I.ieq y1 0) (.fin (.ret (.tup [(.agg [(.p (.str y4)),(.p (.str ([]:Str))),(.p (.str y6)),.nilS]),(.one (.p (.int .i64 0)))])) []) (.br (I.ieq y1 9) (.fin (.ret (.tup [(.agg [(.p (.str ([]:Str))),(.p (.str ([]:Str))),(.p (.str ([]:Str))),.nilS]),(.one (.p (.int .i64 y1)))])) []) (.fin (.ret (.tup [(.agg [(.p (.str y4)),(.p (.str ([]:Str))),(.p (.str ([]:Str))),.nilS]),(.one (.p (.int .i64 0)))])) []))))))))))))))) (by kernel_rfl) ?_
  simp only [zn]
  try rw [show([99,111,110,116,101,110,116,45,100,105,115,112,111,115,105,116,105,111,110]:Str)=xA from rfl]
  try rw [show([99,111,110,116,101,110,116,45,116,121,112,101]:Str)=Yz from rfl]
  try rw [show([102,111,114,109,45,100,97,116,97]:Str)=zaF from rfl]
  try rw [show([102,105,108,101,110,97,109,101]:Str)=zby from rfl]
  try rw [show([102,105,108,101,110,97,109,101,42]:Str)=Xy from rfl]
  try rw [show([110,97,109,101]:Str)=ze5 from rfl]
  have hk1:xA.length≤1000000:=by decide
  have hk2:Yz.length≤1000000:=by decide
  have hv:=zcx (fun f h=>(hf f h).2) xA
  have hp:=Qr (oneF (valsF l xA)).1
  have hg:=fun n=>zcR hp.2 n
  have hg1:=hg Xy
  have hg2:=hg zby
  have hx:=zhH (getP (zX (oneF (valsF l xA)).1).1.params Xy).1
  unfold zM at hr
  subst hI
  simp only [nrmA,nrmB,nrlB,reduceCtorEq]
  have hpl:=hp.1
  clear hp hg
  generalize oneF (valsF l Yz)=t at *
  generalize getP (zX (oneF (valsF l xA)).1).1.params Xy=x at *
  generalize getP (zX (oneF (valsF l xA)).1).1.params zby=f at *
  generalize getP (zX (oneF (valsF l xA)).1).1.params ze5=n at *
  generalize zX (oneF (valsF l xA)).1=m at *
  generalize oneF (valsF l xA)=a at *
  unfold zg5 ziU partT at hr
  (repeat' (first|refine And.intro ?_ ?_|intro _))<;>first|omega|exact True.intro|exact False.elim ‹False›|skip
  all_goals first
    |omega
    |exact hl
    |exact hk1
    |exact hk2
    |exact(hf _ ‹_›).1
    |exact(hf _ ‹_›).2
    |exact absurd (‹extB x.fst=true›.symm.trans ‹extB x.fst=false›) (by decide)
    |(subst hr;clear hf hX hv hg1 hg2 hx hpl hl hk1 hk2;simp [*,prt0];done)
def Wy (I:Alg) (args:List D) (hp:List HO):Option CT:=match args,hp with
  |[.v (.one (.p (.list .fld l)))],[]=>(fun(l:List Fld)=>(some (.one ⟨I.hid (l.length≤1000∧∀ f ∈ l,f.name.length≤1000000∧f.value.length≤1000000),(.ret (.tup [(.agg [(.p (.str (I.hid ((zM l).1.name)))),(.p (.str (I.hid ((zM l).1.file)))),(.p (.str (I.hid ((zM l).1.type)))),.nilS]),(.one (.p (.int .i64 (I.hid ((zM l).2)))))])),[]⟩):Option CT)) l
  |_,_=>none
theorem zdc:zy Tryz.prog 97 (Wy alg):=by
  intro args hp r h
  unfold Wy at h
  split at h
  · cases h;exact fun hn=>zkZ _ hn
  · cases h
def zdb:Know Tryz.prog:=⟨97,Wy,zdc⟩
def zda:Know Tryz.prog:=⟨97,fun I=>zA I (Wy I),zf zdc⟩
end Go.Proofs.YtknaogelmckimaaGreatDoor
namespace Go.Proofs.YtknaogelmckimaaGreatDoor
open Go Go.Sep Go.Ab
set_option maxRecDepth 100000
def zjR:Cfg:= { sl:=[⟨118,0,.byte,some 5⟩]}
theorem zkF:Spc Tryz.prog 54 [] [] (.ret (.v (.one (.ptr 0 0)))) [.pack [.obj 118 [(.row 1),(.p (.bool false)),(.p (.int .i64 0))],.row .byte 5 ([])]]:=by
  refine spcG zi mixed Tryz.func54 (by kernel_rfl) { zjR with keep:=some [0]} [] (by kernel_rfl) ?_
  intro I X hI hX
  refine zh (.fin (.ret (.v (.one (.ptr 0 0)))) [(.pack [(.obj 118 [(.row 1),(.p (.bool Bool.false)),(.p (.int .i64 0))]),(.row .byte 5 ([]:Str))])]) (by kernel_rfl) ?_
  simp only [zn]
  trivial
def Wj (I:Alg) (args:List D) (hp:List HO):Option CT:=match args,hp with
  |[],[]=>(fun(_:Unit)=>(some (.one ⟨I.hid (True),(.ret (.v (.one (.ptr 0 0)))),[.pack [.obj 118 [(.row 1),(.p (.bool false)),(.p (.int .i64 0))],.row .byte 5 (I.hid ([]))]]⟩):Option CT)) ()
  |_,_=>none
theorem zcJ:zy Tryz.prog 54 (Wj alg):=by
  intro args hp r h
  unfold Wj at h
  split at h
  · cases h;exact fun hn=>zkF
  · cases h
def zcI:Know Tryz.prog:=⟨54,Wj,zcJ⟩
def zcH:Know Tryz.prog:=⟨54,fun I=>zA I (Wj I),zf zcJ⟩
theorem zi9 (b:Str) (cr:Bool) (code c:Int):Spc Tryz.prog 76 [.v (.one (.ptr 0 0)),.v (.one (.p (.int .i64 c)))] [.pack [.obj 118 [(.row 1),(.p (.bool cr)),(.p (.int .i64 code))],.row .byte 5 b]] (.ret (.tup [(.one (.p (.str ([])))),(.one (.p (.bool false))),(.one (.p (.int .i64 c)))])) [.pack [.obj 118 [(.row 1),(.p (.bool cr)),(.p (.int .i64 c))],.row .byte 5 b]]:=by
  refine spcG zi mixed Tryz.func76 (by kernel_rfl) { zjR with keep:=some [0,1,4,5,6]} [] (by kernel_rfl) ?_
  intro I X hI hX
  refine zh (.fin (.ret (.tup [(.one (.p (.str ([]:Str)))),(.one (.p (.bool Bool.false))),(.one (.p (.int .i64 c)))])) [(.pack [(.obj 118 [(.row 1),(.p (.bool cr)),(.p (.int .i64 c))]),(.row .byte 5 b)])]) (by kernel_rfl) ?_
  simp only [zn]
  subst hI
  simp only [nrmA,nrmB,nrlB,reduceCtorEq,HO.pack.injEq,HO.obj.injEq]
  try trivial
def ZY (I:Alg) (args:List D) (hp:List HO):Option CT:=match args,hp with
  |[.v (.one (.ptr 0 0)),.v (.one (.p (.int .i64 c)))],[.pack [.obj 118 [(.row 1),(.p (.bool cr)),(.p (.int .i64 code))],.row .byte 5 b]]=>(fun(b:Str) (cr:Bool) (code c:Int)=>(some (.one ⟨I.hid (True),(.ret (.tup [(.one (.p (.str (I.hid ([]))))),(.one (.p (.bool false))),(.one (.p (.int .i64 c)))])),[.pack [.obj 118 [(.row 1),(.p (.bool cr)),(.p (.int .i64 c))],.row .byte 5 b]]⟩):Option CT)) b cr code c
  |_,_=>none
theorem QE:zy Tryz.prog 76 (ZY alg):=by
  intro args hp r h
  unfold ZY at h
  split at h
  · cases h;exact fun hn=>zi9 _ _ _ _
  · cases h
def zfe:Know Tryz.prog:=⟨76,ZY,QE⟩
def zfd:Know Tryz.prog:=⟨76,fun I=>zA I (ZY I),zf QE⟩
set_option maxHeartbeats 4000000 in
theorem zi8 (b:Str) (cr:Bool) (code k:Int) (hneed:0≤k∧k≤255∧b.length≤1000000):Spc Tryz.prog 55 [.v (.one (.ptr 0 0)),.v (.one (.p (.int .u8 k)))] [.pack [.obj 118 [(.row 1),(.p (.bool cr)),(.p (.int .i64 code))],.row .byte 5 b]] (.ret (.tup [(.one (.p (.str ((lnF ⟨b,cr,code⟩ (UInt8.ofNat k.toNat)).2.1)))),(.one (.p (.bool ((lnF ⟨b,cr,code⟩ (UInt8.ofNat k.toNat)).2.2.1)))),(.one (.p (.int .i64 ((lnF ⟨b,cr,code⟩ (UInt8.ofNat k.toNat)).2.2.2))))])) [.pack [.obj 118 [(.row 1),(.p (.bool ((lnF ⟨b,cr,code⟩ (UInt8.ofNat k.toNat)).1.cr))),(.p (.int .i64 ((lnF ⟨b,cr,code⟩ (UInt8.ofNat k.toNat)).1.code)))],.row .byte 5 ((lnF ⟨b,cr,code⟩ (UInt8.ofNat k.toNat)).1.b)]]:=by
  obtain⟨hk0,hk1,hbl⟩:=hneed
  have hkk:((UInt8.ofNat k.toNat).toNat:Int)=k:=by rw [UInt8.toNat_ofNat',Nat.mod_eq_of_lt (by omega)];omega
  generalize hr:lnF ⟨b,cr,code⟩ (UInt8.ofNat k.toNat)=r
  have h10:UInt8.ofNat k.toNat=10↔k=10:=⟨fun h=>by rw [h] at hkk;exact hkk.symm,fun h=>by subst h;rfl⟩
  have h13:UInt8.ofNat k.toNat=13↔k=13:=⟨fun h=>by rw [h] at hkk;exact hkk.symm,fun h=>by subst h;rfl⟩
  unfold lnF za3 at hr
  rw [hkk] at hr
  simp only [h10,h13] at hr
  obtain⟨⟨rb,rc,rcode⟩,rt,ro,re⟩:=r
  refine spcG zi mixed Tryz.func55 (by kernel_rfl) { zjR with nr:=[8],keep:=some [0,1,4,5,6,7]} [vC,qi,zfe,zfd] (by kernel_rfl) ?_
  intro I X hI hX
  refine zh (let y0:HO:=.pack [(.obj 118 [(.row 1),(.p (.bool cr)),(.p (.int .i64 code))]),(.row .byte 5 (I.app (α:=UInt8) b ([(I.i2b k)]:Str)))];let y1:HO:=.pack [(.obj 118 [(.row 1),(.p (.bool Bool.false)),(.p (.int .i64 code))]),(.row .byte 5 ([]:Str))];let y2:=I.few (I.add (I.len (α:=UInt8) b) (I.len (α:=UInt8) ([(I.i2b k)]:Str))) 140737488355328;let y3:HO:=.pack [(.obj 118 [(.row 1),(.p (.bool Bool.true)),(.p (.int .i64 code))]),(.row .byte 5 b)];let y4:HO:=.pack [(.obj 118 [(.row 1),(.p (.bool cr)),(.p (.int .i64 3))]),(.row .byte 5 b)];let y5:HO:=.pack [(.obj 118 [(.row 1),(.p (.bool cr)),(.p (.int .i64 4))]),(.row .byte 5 b)];let y6:HO:=.pack [(.obj 118 [(.row 1),(.p (.bool cr)),(.p (.int .i64 2))]),(.row .byte 5 b)];let y7:=I.bnot (I.hid (α:=Bool) (vk k));let y8:=I.ieq (I.len (α:=UInt8) b) 200;.br (I.bnot (I.ieq code 0)) (.fin (.ret (.tup [(.one (.p (.str ([]:Str)))),(.one (.p (.bool Bool.false))),(.one (.p (.int .i64 code)))])) [(.pack [(.obj 118 [(.row 1),(.p (.bool cr)),(.p (.int .i64 code))]),(.row .byte 5 b)])]) (.br cr (.br (I.bnot (I.ieq k 10)) (.need (I.hid (α:=(Prop)) True) (.fin (.ret (.tup [(.one (.p (.str (I.hid (α:=Str) ([]:Str))))),(.one (.p (.bool Bool.false))),(.one (.p (.int .i64 2)))])) [y6])) (.br (I.bnot cr) (.br (I.ieq k 10) (.need (I.hid (α:=(Prop)) True) (.fin (.ret (.tup [(.one (.p (.str (I.hid (α:=Str) ([]:Str))))),(.one (.p (.bool Bool.false))),(.one (.p (.int .i64 2)))])) [y6])) (.br cr (.fin (.ret (.tup [(.one (.p (.str b))),(.one (.p (.bool Bool.true))),(.one (.p (.int .i64 0)))])) [y1]) (.br (I.ieq k 13) (.fin (.ret (.tup [(.one (.p (.str ([]:Str)))),(.one (.p (.bool Bool.false))),(.one (.p (.int .i64 0)))])) [y3]) (.need (I.hid (α:=(Prop)) True) (.br y7 (.need (I.hid (α:=(Prop)) True) (.fin (.ret (.tup [(.one (.p (.str (I.hid (α:=Str) ([]:Str))))),(.one (.p (.bool Bool.false))),(.one (.p (.int .i64 3)))])) [y4])) (.br y8 (.need (I.hid (α:=(Prop)) True) (.fin (.ret (.tup [(.one (.p (.str (I.hid (α:=Str) ([]:Str))))),(.one (.p (.bool Bool.false))),(.one (.p (.int .i64 4)))])) [y5])) (.need (I.inr Go.IntKind.u8 k) (.need y2 (.fin (.ret (.tup [(.one (.p (.str ([]:Str)))),(.one (.p (.bool Bool.false))),(.one (.p (.int .i64 0)))])) [y0]))))))))) (.br cr (.fin (.ret (.tup [(.one (.p (.str b))),(.one (.p (.bool Bool.true))),(.one (.p (.int .i64 0)))])) [y1]) (.br (I.ieq k 13) (.fin (.ret (.tup [(.one (.p (.str ([]:Str)))),(.one (.p (.bool Bool.false))),(.one (.p (.int .i64 0)))])) [y3]) (.need (I.hid (α:=(Prop)) True) (.br y7 (.need (I.hid (α:=(Prop)) True) (.fin (.ret (.tup [(.one (.p (.str (I.hid (α:=Str) ([]:Str))))),(.one (.p (.bool Bool.false))),(.one (.p (.int .i64 3)))])) [y4])) (.br y8 (.need (I.hid (α:=(Prop)) True) (.fin (.ret (.tup [(.one (.p (.str (I.hid (α:=Str) ([]:Str))))),(.one (.p (.bool Bool.false))),(.one (.p (.int .i64 4)))])) [y5])) (.need (I.inr Go.IntKind.u8 k) (.need y2 (.fin (.ret (.tup [(.one (.p (.str ([]:Str)))),(.one (.p (.bool Bool.false))),(.one (.p (.int .i64 0)))])) [y0])))))))))) (.br (I.bnot cr) (.br (I.ieq k 10) (.need (I.hid (α:=(Prop)) True) (.fin (.ret (.tup [(.one (.p (.str (I.hid (α:=Str) ([]:Str))))),(.one (.p (.bool Bool.false))),(.one (.p (.int .i64 2)))])) [y6])) (.br cr (.fin (.ret (.tup [(.one (.p (.str b))),(.one (.p (.bool Bool.true))),(.one (.p (.int .i64 0)))])) [y1]) (.br (I.ieq k 13) (.fin (.ret (.tup [(.one (.p (.str ([]:Str)))),(.one (.p (.bool Bool.false))),(.one (.p (.int .i64 0)))])) [y3]) (.need (I.hid (α:=(Prop)) True) (.br y7 (.need (I.hid (α:=(Prop)) True) (.fin (.ret (.tup [(.one (.p (.str (I.hid (α:=Str) ([]:Str))))),(.one (.p (.bool Bool.false))),(.one (.p (.int .i64 3)))])) [y4])) (.br y8 (.need (I.hid (α:=(Prop)) True) (.fin (.ret (.tup [(.one (.p (.str (I.hid (α:=Str) ([]:Str))))),(.one (.p (.bool Bool.false))),(.one (.p (.int .i64 4)))])) [y5])) (.need (I.inr Go.IntKind.u8 k) (.need y2 (.fin (.ret (.tup [(.one (.p (.str ([]:Str)))),(.one (.p (.bool Bool.false))),(.one (.p (.int .i64 0)))])) [y0]))))))))) (.br cr (.fin (.ret (.tup [(.one (.p (.str b))),(.one (.p (.bool Bool.true))),(.one (.p (.int .i64 0)))])) [y1]) (.br (I.ieq k 13) (.fin (.ret (.tup [(.one (.p (.str ([]:Str)))),(.one (.p (.bool Bool.false))),(.one (.p (.int .i64 0)))])) [y3]) (.need (I.hid (α:=(Prop)) True) (.br y7 (.need (I.hid (α:=(Prop)) True) (.fin (.ret (.tup [(.one (.p (.str (I.hid (α:=Str) ([]:Str))))),(.one (.p (.bool Bool.false))),(.one (.p (.int .i64 3)))])) [y4])) (.br y8 (.need (I.hid (α:=(Prop)) True) (.fin (.ret (.tup [(.one (.p (.str (I.hid (α:=Str) ([]:Str))))),(.one (.p (.bool Bool.false))),(.one (.p (.int .i64 4)))])) [y5])) (.need (I.inr Go.IntKind.u8 k) (.need y2 (.fin (.ret (.tup [(.one (.p (.str ([]:Str)))),(.one (.p (.bool Bool.false))),(.one (.p (.int .i64 0)))])) [y0]))))))))))) (by kernel_rfl) ?_
  simp only [zn]
  subst hI
  simp only [nrmA,nrmB,nrlB,reduceCtorEq,HO.pack.injEq,HO.obj.injEq]
  generalize UInt8.ofNat k.toNat=c at *
  cases cr
  all_goals simp only [Bool.false_eq_true,if_false,if_true] at hr
  all_goals(repeat' (first|refine And.intro ?_ ?_|intro _))<;>first|omega|exact True.intro|exact False.elim ‹False›|skip
  all_goals first
    |omega
    |(exfalso;simp at *;done)
    |(((repeat(first|rewrite [if_pos (by first|omega|assumption|(simp only [*,or_self,or_true,true_or,or_false,false_or,not_true_eq_false,not_false_eq_true,Bool.false_eq_true,Bool.true_eq_false,and_self,and_true,true_and];done)|(simp only [*];omega)|(simp [*];done)|(simp [*];omega))] at hr|rewrite [if_neg (by first|omega|assumption|(simp only [*,or_self,or_true,true_or,or_false,false_or,not_true_eq_false,not_false_eq_true,Bool.false_eq_true,Bool.true_eq_false,and_self,and_true,true_and];done)|(simp only [*];omega)|(simp [*];done)|(simp [*];omega))] at hr)));cases hr;first|rfl|done|with_reducible assumption|exact⟨rfl,rfl,rfl⟩|(simp;done)|(simp;omega))
def ZX (I:Alg) (args:List D) (hp:List HO):Option CT:=match args,hp with
  |[.v (.one (.ptr 0 0)),.v (.one (.p (.int .u8 k)))],[.pack [.obj 118 [(.row 1),(.p (.bool cr)),(.p (.int .i64 code))],.row .byte 5 b]]=>(fun(b:Str) (cr:Bool) (code k:Int)=>(some (.one ⟨I.hid (0≤k∧k≤255∧b.length≤1000000),(.ret (.tup [(.one (.p (.str (I.hid ((lnF ⟨b,cr,code⟩ (UInt8.ofNat k.toNat)).2.1))))),(.one (.p (.bool (I.hid ((lnF ⟨b,cr,code⟩ (UInt8.ofNat k.toNat)).2.2.1))))),(.one (.p (.int .i64 (I.hid ((lnF ⟨b,cr,code⟩ (UInt8.ofNat k.toNat)).2.2.2)))))])),[.pack [.obj 118 [(.row 1),(.p (.bool (I.hid ((lnF ⟨b,cr,code⟩ (UInt8.ofNat k.toNat)).1.cr)))),(.p (.int .i64 (I.hid ((lnF ⟨b,cr,code⟩ (UInt8.ofNat k.toNat)).1.code))))],.row .byte 5 (I.hid ((lnF ⟨b,cr,code⟩ (UInt8.ofNat k.toNat)).1.b))]]⟩):Option CT)) b cr code k
  |_,_=>none
theorem QD:zy Tryz.prog 55 (ZX alg):=by
  intro args hp r h
  unfold ZX at h
  split at h
  · cases h;exact fun hn=>zi8 _ _ _ _ hn
  · cases h
def QC:Know Tryz.prog:=⟨55,ZX,QD⟩
def QB:Know Tryz.prog:=⟨55,fun I=>zA I (ZX I),zf QD⟩
end Go.Proofs.YtknaogelmckimaaGreatDoor
namespace Go.Proofs.YtknaogelmckimaaGreatDoor
open Go Go.Sep Go.Ab
set_option maxRecDepth 100000
def cfgF:Cfg:= { sl:=[⟨118,0,.byte,some 5⟩,⟨91,0,.byte,some 5⟩,⟨91,1,.int,some 3⟩,⟨60,3,.fld,some 72⟩,⟨60,7,.evt,some 53⟩]}
def yc (f:Fm):Prop:=f.out.length≤10000000
def fm9 (f:Fm):Prop:=f.out.length≤9000000
theorem u8k {k:Int} (h0:0≤k) (h1:k≤255) (n:Nat) (hn:n<256):(UInt8.ofNat k.toNat=UInt8.ofNat n)=(k=n):=by
  rw [← UInt8.toNat_inj,UInt8.toNat_ofNat',UInt8.toNat_ofNat',Nat.mod_eq_of_lt hn,Nat.mod_eq_of_lt (by omega)]
  exact propext ⟨fun h=>by omega,fun h=>by omega⟩
theorem zju (m:Str) (hd:Int) (bs:List Int) (p:Int) (fs:List Fld) (pa sk co:Int) (out:List Evt) (k:Int) (ea eb:Str) (ei:Int) (ef:List Fld) (en:Int) (ebs ex ey ez et:Str) (ec:Int) (hneed:yc ⟨m,hd,bs,p,none,fs,pa,sk,co,out⟩):Spc Tryz.prog 75 [.v (.one (.ptr 0 0)),.v (.agg [(.p (.int .i64 k)),(.p (.str ea)),(.p (.str eb)),(.p (.int .i64 ei)),(.p (.list .fld ef)),(.p (.int .i64 en)),(.p (.list .byte ebs)),(.p (.str ex)),(.p (.str ey)),(.p (.str ez)),(.p (.nl et)),(.p (.int .i64 ec))])] [.abs (.fm ⟨m,hd,bs,p,none,fs,pa,sk,co,out⟩)] (.ret (.tup [])) [.abs (.fm ⟨m,hd,bs,p,none,fs,pa,sk,co,(out++[⟨k,⟨ea,eb,ei,ef,en⟩,ebs,⟨ex,ey,ez,et⟩,ec⟩])⟩)]:=by
  unfold yc at hneed
  simp only at hneed
  refine spcG zi mixed Tryz.func75 (by kernel_rfl) { cfgF with keep:=some [0,1,3]} [] (by kernel_rfl) ?_
  intro I X hI hX
  refine zh (let y0:=I.few (I.add (I.len (α:=Go.Ab.Evt) out) (I.len (α:=Go.Ab.Evt) ([(Go.Ab.Evt.mk k (Hd.mk ea eb ei ef en) ebs (Go.Ab.Prt.mk ex ey ez et) ec)]:List Go.Ab.Evt))) 100000000;.both (.need y0 (.fin (.ret (.tup [])) [(.abs (.fm (Go.Ab.Fm.mk m hd bs p (Option.none) fs pa sk co (I.app (α:=Go.Ab.Evt) out ([(Go.Ab.Evt.mk k (Hd.mk ea eb ei ef en) ebs (Go.Ab.Prt.mk ex ey ez et) ec)]:List Go.Ab.Evt)))))])) (.need y0 (.fin (.ret (.tup [])) [(.abs (.fm (Go.Ab.Fm.mk m hd bs p (Option.none) fs pa sk co (I.app (α:=Go.Ab.Evt) out ([(Go.Ab.Evt.mk k (Hd.mk ea eb ei ef en) ebs (Go.Ab.Prt.mk ex ey ez et) ec)]:List Go.Ab.Evt)))))]))) (by kernel_rfl) ?_
  simp only [zn]
  subst hI
  simp only [nrmA,nrmB,nrlB,reduceCtorEq,HO.abs.injEq,Gh.fm.injEq,Fm.mk.injEq]
  (repeat' (first|refine And.intro ?_ ?_|intro _))<;>first|omega|exact True.intro|exact False.elim ‹False›|skip
  all_goals first
    |omega
    |rfl
    |with_reducible assumption
    |(simp only [List.length_cons,List.length_nil];omega)
    |(unfold yc;simp only;omega)
    |(simp;done)
def Yg (I:Alg) (args:List D) (hp:List HO):Option CT:=match args,hp with
  |[.v (.one (.ptr 0 0)),.v (.agg [(.p (.int .i64 k)),(.p (.str ea)),(.p (.str eb)),(.p (.int .i64 ei)),(.p (.list .fld ef)),(.p (.int .i64 en)),(.p (.list .byte ebs)),(.p (.str ex)),(.p (.str ey)),(.p (.str ez)),(.p (.nl et)),(.p (.int .i64 ec))])],[.abs (.fm ⟨m,hd,bs,p,none,fs,pa,sk,co,out⟩)]=>(fun(m:Str) (hd:Int) (bs:List Int) (p:Int) (fs:List Fld) (pa sk co:Int) (out:List Evt) (k:Int) (ea eb:Str) (ei:Int) (ef:List Fld) (en:Int) (ebs ex ey ez et:Str) (ec:Int)=>(some (.one ⟨I.hid (yc ⟨m,hd,bs,p,none,fs,pa,sk,co,out⟩),(.ret (.tup [])),[.abs (.fm ⟨m,hd,bs,p,none,fs,pa,sk,co,(I.hid (out++[⟨k,⟨ea,eb,ei,ef,en⟩,ebs,⟨ex,ey,ez,et⟩,ec⟩]))⟩)]⟩):Option CT)) m hd bs p fs pa sk co out k ea eb ei ef en ebs ex ey ez et ec
  |_,_=>none
theorem zam:zy Tryz.prog 75 (Yg alg):=by
  intro args hp r h
  unfold Yg at h
  split at h
  · cases h;exact fun hn=>zju _ _ _ _ _ _ _ _ _ _ _ _ _ _ _ _ _ _ _ _ _ hn
  · cases h
def wB:Know Tryz.prog:=⟨75,Yg,zam⟩
def wz:Know Tryz.prog:=⟨75,fun I=>zA I (Yg I),zf zam⟩
theorem zjt (m:Str) (hd:Int) (bs:List Int) (p:Int) (ln:Ln) (fs:List Fld) (pa sk co:Int) (out:List Evt) (k:Int) (ea eb:Str) (ei:Int) (ef:List Fld) (en:Int) (ebs ex ey ez et:Str) (ec:Int) (hneed:yc ⟨m,hd,bs,p,some ln,fs,pa,sk,co,out⟩):Spc Tryz.prog 75 [.v (.one (.ptr 0 0)),.v (.agg [(.p (.int .i64 k)),(.p (.str ea)),(.p (.str eb)),(.p (.int .i64 ei)),(.p (.list .fld ef)),(.p (.int .i64 en)),(.p (.list .byte ebs)),(.p (.str ex)),(.p (.str ey)),(.p (.str ez)),(.p (.nl et)),(.p (.int .i64 ec))])] [.abs (.fm ⟨m,hd,bs,p,some ln,fs,pa,sk,co,out⟩)] (.ret (.tup [])) [.abs (.fm ⟨m,hd,bs,p,some ln,fs,pa,sk,co,(out++[⟨k,⟨ea,eb,ei,ef,en⟩,ebs,⟨ex,ey,ez,et⟩,ec⟩])⟩)]:=by
  unfold yc at hneed
  simp only at hneed
  refine spcG zi mixed Tryz.func75 (by kernel_rfl) { cfgF with keep:=some [0,1,3]} [wB,wz] (by kernel_rfl) ?_
  intro I X hI hX
  refine zh (let y0:=I.few (I.add (I.len (α:=Go.Ab.Evt) out) (I.len (α:=Go.Ab.Evt) ([(Go.Ab.Evt.mk k (Hd.mk ea eb ei ef en) ebs (Go.Ab.Prt.mk ex ey ez et) ec)]:List Go.Ab.Evt))) 100000000;.both (.need y0 (.fin (.ret (.tup [])) [(.abs (.fm (Go.Ab.Fm.mk m hd bs p (Option.some (Go.Ab.Ln.mk (Go.Ab.Ln.b ln) (Go.Ab.Ln.cr ln) (Go.Ab.Ln.code ln))) fs pa sk co (I.app (α:=Go.Ab.Evt) out ([(Go.Ab.Evt.mk k (Hd.mk ea eb ei ef en) ebs (Go.Ab.Prt.mk ex ey ez et) ec)]:List Go.Ab.Evt)))))])) (.need y0 (.fin (.ret (.tup [])) [(.abs (.fm (Go.Ab.Fm.mk m hd bs p (Option.some (Go.Ab.Ln.mk (Go.Ab.Ln.b ln) (Go.Ab.Ln.cr ln) (Go.Ab.Ln.code ln))) fs pa sk co (I.app (α:=Go.Ab.Evt) out ([(Go.Ab.Evt.mk k (Hd.mk ea eb ei ef en) ebs (Go.Ab.Prt.mk ex ey ez et) ec)]:List Go.Ab.Evt)))))]))) (by kernel_rfl) ?_
  simp only [zn]
  subst hI
  simp only [nrmA,nrmB,nrlB,reduceCtorEq,HO.abs.injEq,Gh.fm.injEq,Fm.mk.injEq]
  (repeat' (first|refine And.intro ?_ ?_|intro _))<;>first|omega|exact True.intro|exact False.elim ‹False›|skip
  all_goals first
    |omega
    |rfl
    |with_reducible assumption
    |(simp only [List.length_cons,List.length_nil];omega)
    |(unfold yc;simp only;omega)
    |(simp;done)
def Yf (I:Alg) (args:List D) (hp:List HO):Option CT:=match args,hp with
  |[.v (.one (.ptr 0 0)),.v (.agg [(.p (.int .i64 k)),(.p (.str ea)),(.p (.str eb)),(.p (.int .i64 ei)),(.p (.list .fld ef)),(.p (.int .i64 en)),(.p (.list .byte ebs)),(.p (.str ex)),(.p (.str ey)),(.p (.str ez)),(.p (.nl et)),(.p (.int .i64 ec))])],[.abs (.fm ⟨m,hd,bs,p,some ln,fs,pa,sk,co,out⟩)]=>(fun(m:Str) (hd:Int) (bs:List Int) (p:Int) (ln:Ln) (fs:List Fld) (pa sk co:Int) (out:List Evt) (k:Int) (ea eb:Str) (ei:Int) (ef:List Fld) (en:Int) (ebs ex ey ez et:Str) (ec:Int)=>(some (.one ⟨I.hid (yc ⟨m,hd,bs,p,some ln,fs,pa,sk,co,out⟩),(.ret (.tup [])),[.abs (.fm ⟨m,hd,bs,p,some ln,fs,pa,sk,co,(I.hid (out++[⟨k,⟨ea,eb,ei,ef,en⟩,ebs,⟨ex,ey,ez,et⟩,ec⟩]))⟩)]⟩):Option CT)) m hd bs p ln fs pa sk co out k ea eb ei ef en ebs ex ey ez et ec
  |_,_=>none
theorem zal:zy Tryz.prog 75 (Yf alg):=by
  intro args hp r h
  unfold Yf at h
  split at h
  · cases h;exact fun hn=>zjt _ _ _ _ _ _ _ _ _ _ _ _ _ _ _ _ _ _ _ _ _ _ hn
  · cases h
def wV:Know Tryz.prog:=⟨75,Yf,zal⟩
def wU:Know Tryz.prog:=⟨75,fun I=>zA I (Yf I),zf zal⟩
theorem zc0 (m:Str) (hd:Int) (bs:List Int) (p:Int) (fs:List Fld) (pa sk co:Int) (out:List Evt) (c:Int) (hneed:yc ⟨m,hd,bs,p,none,fs,pa,sk,co,out⟩):Spc Tryz.prog 53 [.v (.one (.ptr 0 0)),.v (.one (.p (.int .i64 c)))] [.abs (.fm ⟨m,hd,bs,p,none,fs,pa,sk,co,out⟩)] (.ret (.tup [])) [.abs (.fm ((zG ⟨m,hd,bs,p,none,fs,pa,sk,co,out⟩ c)))]:=by
  unfold yc at hneed
  simp only at hneed
  refine spcG zi mixed Tryz.func53 (by kernel_rfl) { cfgF with keep:=some [0,1]} [wB,wz,wV,wU] (by kernel_rfl) ?_
  intro I X hI hX
  refine zh (.need (I.hid (α:=(Prop)) (yc (Go.Ab.Fm.mk m hd bs (8:Int) (Option.none) fs pa sk c out))) (.fin (.ret (.tup [])) [(.abs (.fm (Go.Ab.Fm.mk m hd bs (8:Int) (Option.none) fs pa sk c (I.hid (α:=(List Go.Ab.Evt)) (HAppend.hAppend out ([(Go.Ab.Evt.mk (4:Int) (Hd.mk ([]:Str) ([]:Str) (0:Int) ([]:List Fld) (0:Int)) ([]:Str) (Go.Ab.Prt.mk ([]:Str) ([]:Str) ([]:Str) ([]:Str)) c)]:List Go.Ab.Evt))))))])) (by kernel_rfl) ?_
  simp only [zn]
  subst hI
  simp only [nrmA,nrmB,nrlB,reduceCtorEq,HO.abs.injEq,Gh.fm.injEq,Fm.mk.injEq]
  (repeat' (first|refine And.intro ?_ ?_|intro _))<;>first|omega|exact True.intro|exact False.elim ‹False›|skip
  all_goals first
    |omega
    |rfl
    |with_reducible assumption
    |(simp only [List.length_cons,List.length_nil];omega)
    |(unfold yc;simp only;omega)
    |(simp;done)
def qJ (I:Alg) (args:List D) (hp:List HO):Option CT:=match args,hp with
  |[.v (.one (.ptr 0 0)),.v (.one (.p (.int .i64 c)))],[.abs (.fm ⟨m,hd,bs,p,none,fs,pa,sk,co,out⟩)]=>(fun(m:Str) (hd:Int) (bs:List Int) (p:Int) (fs:List Fld) (pa sk co:Int) (out:List Evt) (c:Int)=>(some (.one ⟨I.hid (yc ⟨m,hd,bs,p,none,fs,pa,sk,co,out⟩),(.ret (.tup [])),[.abs (.fm (I.hid ((zG ⟨m,hd,bs,p,none,fs,pa,sk,co,out⟩ c))))]⟩):Option CT)) m hd bs p fs pa sk co out c
  |_,_=>none
theorem UR:zy Tryz.prog 53 (qJ alg):=by
  intro args hp r h
  unfold qJ at h
  split at h
  · cases h;exact fun hn=>zc0 _ _ _ _ _ _ _ _ _ _ hn
  · cases h
def zeb:Know Tryz.prog:=⟨53,qJ,UR⟩
def zea:Know Tryz.prog:=⟨53,fun I=>zA I (qJ I),zf UR⟩
theorem zhy (m:Str) (hd:Int) (bs:List Int) (p:Int) (ln:Ln) (fs:List Fld) (pa sk co:Int) (out:List Evt) (c:Int) (hneed:yc ⟨m,hd,bs,p,some ln,fs,pa,sk,co,out⟩):Spc Tryz.prog 53 [.v (.one (.ptr 0 0)),.v (.one (.p (.int .i64 c)))] [.abs (.fm ⟨m,hd,bs,p,some ln,fs,pa,sk,co,out⟩)] (.ret (.tup [])) [.abs (.fm ((zG ⟨m,hd,bs,p,some ln,fs,pa,sk,co,out⟩ c)))]:=by
  unfold yc at hneed
  simp only at hneed
  refine spcG zi mixed Tryz.func53 (by kernel_rfl) { cfgF with keep:=some [0,1]} [wB,wz,wV,wU,zeb,zea] (by kernel_rfl) ?_
  intro I X hI hX
  refine zh (.need (I.hid (α:=(Prop)) (yc (Go.Ab.Fm.mk m hd bs (8:Int) (Option.some (Go.Ab.Ln.mk (Go.Ab.Ln.b ln) (Go.Ab.Ln.cr ln) (Go.Ab.Ln.code ln))) fs pa sk c out))) (.fin (.ret (.tup [])) [(.abs (.fm (Go.Ab.Fm.mk m hd bs (8:Int) (Option.some (Go.Ab.Ln.mk (Go.Ab.Ln.b ln) (Go.Ab.Ln.cr ln) (Go.Ab.Ln.code ln))) fs pa sk c (I.hid (α:=(List Go.Ab.Evt)) (HAppend.hAppend out ([(Go.Ab.Evt.mk (4:Int) (Hd.mk ([]:Str) ([]:Str) (0:Int) ([]:List Fld) (0:Int)) ([]:Str) (Go.Ab.Prt.mk ([]:Str) ([]:Str) ([]:Str) ([]:Str)) c)]:List Go.Ab.Evt))))))])) (by kernel_rfl) ?_
  simp only [zn]
  subst hI
  simp only [nrmA,nrmB,nrlB,reduceCtorEq,HO.abs.injEq,Gh.fm.injEq,Fm.mk.injEq]
  (repeat' (first|refine And.intro ?_ ?_|intro _))<;>first|omega|exact True.intro|exact False.elim ‹False›|skip
  all_goals first
    |omega
    |rfl
    |with_reducible assumption
    |(simp only [List.length_cons,List.length_nil];omega)
    |(unfold yc;simp only;omega)
    |(simp;done)
theorem zjA (f:Fm) (c:Int) (hneed:yc f):Spc Tryz.prog 53 [.v (.one (.ptr 0 0)),.v (.one (.p (.int .i64 c)))] [.abs (.fm f)] (.ret (.tup [])) [.abs (.fm ((zG f c)))]:=by
  obtain⟨m,hd,bs,p,ln,fs,pa,sk,co,out⟩:=f
  cases ln with
  |none=>exact zc0 m hd bs p fs pa sk co out c hneed
  |some ln=>exact zhy m hd bs p ln fs pa sk co out c hneed
def Yo (I:Alg) (args:List D) (hp:List HO):Option CT:=match args,hp with
  |[.v (.one (.ptr 0 0)),.v (.one (.p (.int .i64 c)))],[.abs (.fm f)]=>(fun(f:Fm) (c:Int)=>(some (.one ⟨I.hid (yc f),(.ret (.tup [])),[.abs (.fm (I.hid ((zG f c))))]⟩):Option CT)) f c
  |_,_=>none
theorem zaw:zy Tryz.prog 53 (Yo alg):=by
  intro args hp r h
  unfold Yo at h
  split at h
  · cases h;exact fun hn=>zjA _ _ hn
  · cases h
def wX:Know Tryz.prog:=⟨53,Yo,zaw⟩
def wW:Know Tryz.prog:=⟨53,fun I=>zA I (Yo I),zf zaw⟩
theorem UZ (m:Str) (hd:Int) (bs:List Int) (p:Int) (fs:List Fld) (pa sk co:Int) (out:List Evt) (k:Int) (hneed:yc ⟨m,hd,bs,p,none,fs,pa,sk,co,out⟩∧0≤k∧k≤255):Spc Tryz.prog 52 [.v (.one (.ptr 0 0)),.v (.one (.p (.int .u8 k)))] [.abs (.fm ⟨m,hd,bs,p,none,fs,pa,sk,co,out⟩)] (.ret (.tup [])) [.abs (.fm ((zJ ⟨m,hd,bs,p,none,fs,pa,sk,co,out⟩ (UInt8.ofNat k.toNat))))]:=by
  obtain⟨hneed,h0,h1⟩:=hneed
  have hc:=fun n=>u8k h0 h1 n
  have h45:(UInt8.ofNat k.toNat=45)=(k=45):=hc 45 (by decide)
  have h32:(UInt8.ofNat k.toNat=32)=(k=32):=hc 32 (by decide)
  have h9:(UInt8.ofNat k.toNat=9)=(k=9):=hc 9 (by decide)
  have h13:(UInt8.ofNat k.toNat=13)=(k=13):=hc 13 (by decide)
  clear hc
  generalize UInt8.ofNat k.toNat=c at *
  unfold yc at hneed
  simp only at hneed
  generalize hr:zJ ⟨m,hd,bs,p,none,fs,pa,sk,co,out⟩ c=r
  unfold zJ at hr
  simp only [h45,h32,h9,h13] at hr
  refine spcG zi mixed Tryz.func52 (by kernel_rfl) { cfgF with keep:=some [0,1,4]} [wB,wz,wV,wU,wX,wW] (by kernel_rfl) ?_
  intro I X hI hX
  refine zh (let y0:=I.hid (α:=Go.Ab.Fm) (zG (Go.Ab.Fm.mk m hd bs p (Option.none) fs pa sk co out) (5:Int));let y1:=I.hid (α:=(Prop)) (yc (Go.Ab.Fm.mk m hd bs p (Option.none) fs pa sk co out));let y2:=I.hid (α:=(List Go.Ab.Evt)) (HAppend.hAppend out ([(Go.Ab.Evt.mk (3:Int) (Hd.mk ([]:Str) ([]:Str) (0:Int) ([]:List Fld) (0:Int)) ([]:Str) (Go.Ab.Prt.mk ([]:Str) ([]:Str) ([]:Str) ([]:Str)) (0:Int))]:List Go.Ab.Evt));let y3:=I.hid (α:=(Prop)) (yc (Go.Ab.Fm.mk m hd bs (7:Int) (Option.none) fs pa sk co out));.br (I.ieq k 32) (.br (I.ieq p 1) (.br (I.ieq k 45) (.fin (.ret (.tup [])) [(.abs (.fm (Go.Ab.Fm.mk m hd bs (2:Int) (Option.none) fs pa sk co out)))]) (.br (I.ieq p 2) (.br (I.ieq k 45) (.need y3 (.fin (.ret (.tup [])) [(.abs (.fm (Go.Ab.Fm.mk m hd bs (7:Int) (Option.none) fs pa sk co y2)))])) (.br (I.bnot (I.ieq p 2)) (.fin (.ret (.tup [])) [(.abs (.fm (Go.Ab.Fm.mk m hd bs (3:Int) (Option.none) fs pa sk co out)))]) (.br (I.bnot (I.ieq p 2)) (.br (I.ieq k 13) (.fin (.ret (.tup [])) [(.abs (.fm (Go.Ab.Fm.mk m hd bs (4:Int) (Option.none) fs pa sk co out)))]) (.need y1 (.fin (.ret (.tup [])) [(.abs (.fm y0))]))) (.need y1 (.fin (.ret (.tup [])) [(.abs (.fm y0))]))))) (.br (I.bnot (I.ieq p 2)) (.fin (.ret (.tup [])) [(.abs (.fm (Go.Ab.Fm.mk m hd bs (3:Int) (Option.none) fs pa sk co out)))]) (.br (I.bnot (I.ieq p 2)) (.br (I.ieq k 13) (.fin (.ret (.tup [])) [(.abs (.fm (Go.Ab.Fm.mk m hd bs (4:Int) (Option.none) fs pa sk co out)))]) (.need y1 (.fin (.ret (.tup [])) [(.abs (.fm y0))]))) (.need y1 (.fin (.ret (.tup [])) [(.abs (.fm y0))])))))) (.br (I.ieq p 2) (.br (I.ieq k 45) (.need y3 (.fin (.ret (.tup [])) [(.abs (.fm (Go.Ab.Fm.mk m hd bs (7:Int) (Option.none) fs pa sk co y2)))])) (.br (I.bnot (I.ieq p 2)) (.fin (.ret (.tup [])) [(.abs (.fm (Go.Ab.Fm.mk m hd bs (3:Int) (Option.none) fs pa sk co out)))]) (.br (I.bnot (I.ieq p 2)) (.br (I.ieq k 13) (.fin (.ret (.tup [])) [(.abs (.fm (Go.Ab.Fm.mk m hd bs (4:Int) (Option.none) fs pa sk co out)))]) (.need y1 (.fin (.ret (.tup [])) [(.abs (.fm y0))]))) (.need y1 (.fin (.ret (.tup [])) [(.abs (.fm y0))]))))) (.br (I.bnot (I.ieq p 2)) (.fin (.ret (.tup [])) [(.abs (.fm (Go.Ab.Fm.mk m hd bs (3:Int) (Option.none) fs pa sk co out)))]) (.br (I.bnot (I.ieq p 2)) (.br (I.ieq k 13) (.fin (.ret (.tup [])) [(.abs (.fm (Go.Ab.Fm.mk m hd bs (4:Int) (Option.none) fs pa sk co out)))]) (.need y1 (.fin (.ret (.tup [])) [(.abs (.fm y0))]))) (.need y1 (.fin (.ret (.tup [])) [(.abs (.fm y0))])))))) (.br (I.ieq p 1) (.br (I.ieq k 45) (.fin (.ret (.tup [])) [(.abs (.fm (Go.Ab.Fm.mk m hd bs (2:Int) (Option.none) fs pa sk co out)))]) (.br (I.ieq p 2) (.br (I.ieq k 45) (.need y3 (.fin (.ret (.tup [])) [(.abs (.fm (Go.Ab.Fm.mk m hd bs (7:Int) (Option.none) fs pa sk co y2)))])) (.br (I.bnot (I.ieq p 2)) (.br (I.ieq k 9) (.fin (.ret (.tup [])) [(.abs (.fm (Go.Ab.Fm.mk m hd bs (3:Int) (Option.none) fs pa sk co out)))]) (.br (I.bnot (I.ieq p 2)) (.br (I.ieq k 13) (.fin (.ret (.tup [])) [(.abs (.fm (Go.Ab.Fm.mk m hd bs (4:Int) (Option.none) fs pa sk co out)))]) (.need y1 (.fin (.ret (.tup [])) [(.abs (.fm y0))]))) (.need y1 (.fin (.ret (.tup [])) [(.abs (.fm y0))])))) (.br (I.bnot (I.ieq p 2)) (.br (I.ieq k 13) (.fin (.ret (.tup [])) [(.abs (.fm (Go.Ab.Fm.mk m hd bs (4:Int) (Option.none) fs pa sk co out)))]) (.need y1 (.fin (.ret (.tup [])) [(.abs (.fm y0))]))) (.need y1 (.fin (.ret (.tup [])) [(.abs (.fm y0))]))))) (.br (I.bnot (I.ieq p 2)) (.br (I.ieq k 9) (.fin (.ret (.tup [])) [(.abs (.fm (Go.Ab.Fm.mk m hd bs (3:Int) (Option.none) fs pa sk co out)))]) (.br (I.bnot (I.ieq p 2)) (.br (I.ieq k 13) (.fin (.ret (.tup [])) [(.abs (.fm (Go.Ab.Fm.mk m hd bs (4:Int) (Option.none) fs pa sk co out)))]) (.need y1 (.fin (.ret (.tup [])) [(.abs (.fm y0))]))) (.need y1 (.fin (.ret (.tup [])) [(.abs (.fm y0))])))) (.br (I.bnot (I.ieq p 2)) (.br (I.ieq k 13) (.fin (.ret (.tup [])) [(.abs (.fm (Go.Ab.Fm.mk m hd bs (4:Int) (Option.none) fs pa sk co out)))]) (.need y1 (.fin (.ret (.tup [])) [(.abs (.fm y0))]))) (.need y1 (.fin (.ret (.tup [])) [(.abs (.fm y0))])))))) (.br (I.ieq p 2) (.br (I.ieq k 45) (.need y3 (.fin (.ret (.tup [])) [(.abs (.fm (Go.Ab.Fm.mk m hd bs (7:Int) (Option.none) fs pa sk co y2)))])) (.br (I.bnot (I.ieq p 2)) (.br (I.ieq k 9) (.fin (.ret (.tup [])) [(.abs (.fm (Go.Ab.Fm.mk m hd bs (3:Int) (Option.none) fs pa sk co out)))]) (.br (I.bnot (I.ieq p 2)) (.br (I.ieq k 13) (.fin (.ret (.tup [])) [(.abs (.fm (Go.Ab.Fm.mk m hd bs (4:Int) (Option.none) fs pa sk co out)))]) (.need y1 (.fin (.ret (.tup [])) [(.abs (.fm y0))]))) (.need y1 (.fin (.ret (.tup [])) [(.abs (.fm y0))])))) (.br (I.bnot (I.ieq p 2)) (.br (I.ieq k 13) (.fin (.ret (.tup [])) [(.abs (.fm (Go.Ab.Fm.mk m hd bs (4:Int) (Option.none) fs pa sk co out)))]) (.need y1 (.fin (.ret (.tup [])) [(.abs (.fm y0))]))) (.need y1 (.fin (.ret (.tup [])) [(.abs (.fm y0))]))))) (.br (I.bnot (I.ieq p 2)) (.br (I.ieq k 9) (.fin (.ret (.tup [])) [(.abs (.fm (Go.Ab.Fm.mk m hd bs (3:Int) (Option.none) fs pa sk co out)))]) (.br (I.bnot (I.ieq p 2)) (.br (I.ieq k 13) (.fin (.ret (.tup [])) [(.abs (.fm (Go.Ab.Fm.mk m hd bs (4:Int) (Option.none) fs pa sk co out)))]) (.need y1 (.fin (.ret (.tup [])) [(.abs (.fm y0))]))) (.need y1 (.fin (.ret (.tup [])) [(.abs (.fm y0))])))) (.br (I.bnot (I.ieq p 2)) (.br (I.ieq k 13) (.fin (.ret (.tup [])) [(.abs (.fm (Go.Ab.Fm.mk m hd bs (4:Int) (Option.none) fs pa sk co out)))]) (.need y1 (.fin (.ret (.tup [])) [(.abs (.fm y0))]))) (.need y1 (.fin (.ret (.tup [])) [(.abs (.fm y0))]))))))) (by kernel_rfl) ?_
  simp only [zn]
  subst hI
  simp only [nrmA,nrmB,nrlB,reduceCtorEq,HO.abs.injEq,Gh.fm.injEq]
  (repeat' (first|refine And.intro ?_ ?_|intro _))<;>first|omega|exact True.intro|exact False.elim ‹False›|skip
  all_goals first
    |omega
    |(unfold yc;simp only;omega)
    |(subst hr;simp [*,zG,evE,hd0,prt0];done)
def uy (I:Alg) (args:List D) (hp:List HO):Option CT:=match args,hp with
  |[.v (.one (.ptr 0 0)),.v (.one (.p (.int .u8 k)))],[.abs (.fm ⟨m,hd,bs,p,none,fs,pa,sk,co,out⟩)]=>(fun(m:Str) (hd:Int) (bs:List Int) (p:Int) (fs:List Fld) (pa sk co:Int) (out:List Evt) (k:Int)=>(some (.one ⟨I.hid (yc ⟨m,hd,bs,p,none,fs,pa,sk,co,out⟩∧0≤k∧k≤255),(.ret (.tup [])),[.abs (.fm (I.hid ((zJ ⟨m,hd,bs,p,none,fs,pa,sk,co,out⟩ (UInt8.ofNat k.toNat)))))]⟩):Option CT)) m hd bs p fs pa sk co out k
  |_,_=>none
theorem Xt:zy Tryz.prog 52 (uy alg):=by
  intro args hp r h
  unfold uy at h
  split at h
  · cases h;exact fun hn=>UZ _ _ _ _ _ _ _ _ _ _ hn
  · cases h
def zaz:Know Tryz.prog:=⟨52,uy,Xt⟩
def zay:Know Tryz.prog:=⟨52,fun I=>zA I (uy I),zf Xt⟩
theorem zec (m:Str) (hd:Int) (bs:List Int) (p:Int) (ln:Ln) (fs:List Fld) (pa sk co:Int) (out:List Evt) (k:Int) (hneed:yc ⟨m,hd,bs,p,some ln,fs,pa,sk,co,out⟩∧0≤k∧k≤255):Spc Tryz.prog 52 [.v (.one (.ptr 0 0)),.v (.one (.p (.int .u8 k)))] [.abs (.fm ⟨m,hd,bs,p,some ln,fs,pa,sk,co,out⟩)] (.ret (.tup [])) [.abs (.fm ((zJ ⟨m,hd,bs,p,some ln,fs,pa,sk,co,out⟩ (UInt8.ofNat k.toNat))))]:=by
  obtain⟨hneed,h0,h1⟩:=hneed
  have hc:=fun n=>u8k h0 h1 n
  have h45:(UInt8.ofNat k.toNat=45)=(k=45):=hc 45 (by decide)
  have h32:(UInt8.ofNat k.toNat=32)=(k=32):=hc 32 (by decide)
  have h9:(UInt8.ofNat k.toNat=9)=(k=9):=hc 9 (by decide)
  have h13:(UInt8.ofNat k.toNat=13)=(k=13):=hc 13 (by decide)
  clear hc
  generalize UInt8.ofNat k.toNat=c at *
  unfold yc at hneed
  simp only at hneed
  generalize hr:zJ ⟨m,hd,bs,p,some ln,fs,pa,sk,co,out⟩ c=r
  unfold zJ at hr
  simp only [h45,h32,h9,h13] at hr
  refine spcG zi mixed Tryz.func52 (by kernel_rfl) { cfgF with keep:=some [0,1,4]} [wB,wz,wV,wU,wX,wW,zaz,zay] (by kernel_rfl) ?_
  intro I X hI hX
  refine zh (let y0:=I.hid (α:=Go.Ab.Fm) (zG (Go.Ab.Fm.mk m hd bs p (Option.some (Go.Ab.Ln.mk (Go.Ab.Ln.b ln) (Go.Ab.Ln.cr ln) (Go.Ab.Ln.code ln))) fs pa sk co out) (5:Int));let y1:=I.hid (α:=(Prop)) (yc (Go.Ab.Fm.mk m hd bs p (Option.some (Go.Ab.Ln.mk (Go.Ab.Ln.b ln) (Go.Ab.Ln.cr ln) (Go.Ab.Ln.code ln))) fs pa sk co out));let y2:=I.hid (α:=(List Go.Ab.Evt)) (HAppend.hAppend out ([(Go.Ab.Evt.mk (3:Int) (Hd.mk ([]:Str) ([]:Str) (0:Int) ([]:List Fld) (0:Int)) ([]:Str) (Go.Ab.Prt.mk ([]:Str) ([]:Str) ([]:Str) ([]:Str)) (0:Int))]:List Go.Ab.Evt));let y3:=I.hid (α:=(Prop)) (yc (Go.Ab.Fm.mk m hd bs (7:Int) (Option.some (Go.Ab.Ln.mk (Go.Ab.Ln.b ln) (Go.Ab.Ln.cr ln) (Go.Ab.Ln.code ln))) fs pa sk co out));.br (I.ieq k 32) (.br (I.ieq p 1) (.br (I.ieq k 45) (.fin (.ret (.tup [])) [(.abs (.fm (Go.Ab.Fm.mk m hd bs (2:Int) (Option.some (Go.Ab.Ln.mk (Go.Ab.Ln.b ln) (Go.Ab.Ln.cr ln) (Go.Ab.Ln.code ln))) fs pa sk co out)))]) (.br (I.ieq p 2) (.br (I.ieq k 45) (.need y3 (.fin (.ret (.tup [])) [(.abs (.fm (Go.Ab.Fm.mk m hd bs (7:Int) (Option.some (Go.Ab.Ln.mk (Go.Ab.Ln.b ln) (Go.Ab.Ln.cr ln) (Go.Ab.Ln.code ln))) fs pa sk co y2)))])) (.br (I.bnot (I.ieq p 2)) (.fin (.ret (.tup [])) [(.abs (.fm (Go.Ab.Fm.mk m hd bs (3:Int) (Option.some (Go.Ab.Ln.mk (Go.Ab.Ln.b ln) (Go.Ab.Ln.cr ln) (Go.Ab.Ln.code ln))) fs pa sk co out)))]) (.br (I.bnot (I.ieq p 2)) (.br (I.ieq k 13) (.fin (.ret (.tup [])) [(.abs (.fm (Go.Ab.Fm.mk m hd bs (4:Int) (Option.some (Go.Ab.Ln.mk (Go.Ab.Ln.b ln) (Go.Ab.Ln.cr ln) (Go.Ab.Ln.code ln))) fs pa sk co out)))]) (.need y1 (.fin (.ret (.tup [])) [(.abs (.fm y0))]))) (.need y1 (.fin (.ret (.tup [])) [(.abs (.fm y0))]))))) (.br (I.bnot (I.ieq p 2)) (.fin (.ret (.tup [])) [(.abs (.fm (Go.Ab.Fm.mk m hd bs (3:Int) (Option.some (Go.Ab.Ln.mk (Go.Ab.Ln.b ln) (Go.Ab.Ln.cr ln) (Go.Ab.Ln.code ln))) fs pa sk co out)))]) (.br (I.bnot (I.ieq p 2)) (.br (I.ieq k 13) (.fin (.ret (.tup [])) [(.abs (.fm (Go.Ab.Fm.mk m hd bs (4:Int) (Option.some (Go.Ab.Ln.mk (Go.Ab.Ln.b ln) (Go.Ab.Ln.cr ln) (Go.Ab.Ln.code ln))) fs pa sk co out)))]) (.need y1 (.fin (.ret (.tup [])) [(.abs (.fm y0))]))) (.need y1 (.fin (.ret (.tup [])) [(.abs (.fm y0))])))))) (.br (I.ieq p 2) (.br (I.ieq k 45) (.need y3 (.fin (.ret (.tup [])) [(.abs (.fm (Go.Ab.Fm.mk m hd bs (7:Int) (Option.some (Go.Ab.Ln.mk (Go.Ab.Ln.b ln) (Go.Ab.Ln.cr ln) (Go.Ab.Ln.code ln))) fs pa sk co y2)))])) (.br (I.bnot (I.ieq p 2)) (.fin (.ret (.tup [])) [(.abs (.fm (Go.Ab.Fm.mk m hd bs (3:Int) (Option.some (Go.Ab.Ln.mk (Go.Ab.Ln.b ln) (Go.Ab.Ln.cr ln) (Go.Ab.Ln.code ln))) fs pa sk co out)))]) (.br (I.bnot (I.ieq p 2)) (.br (I.ieq k 13) (.fin (.ret (.tup [])) [(.abs (.fm (Go.Ab.Fm.mk m hd bs (4:Int) (Option.some (Go.Ab.Ln.mk (Go.Ab.Ln.b ln) (Go.Ab.Ln.cr ln) (Go.Ab.Ln.code ln))) fs pa sk co out)))]) (.need y1 (.fin (.ret (.tup [])) [(.abs (.fm y0))]))) (.need y1 (.fin (.ret (.tup [])) [(.abs (.fm y0))]))))) (.br (I.bnot (I.ieq p 2)) (.fin (.ret (.tup [])) [(.abs (.fm (Go.Ab.Fm.mk m hd bs (3:Int) (Option.some (Go.Ab.Ln.mk (Go.Ab.Ln.b ln) (Go.Ab.Ln.cr ln) (Go.Ab.Ln.code ln))) fs pa sk co out)))]) (.br (I.bnot (I.ieq p 2)) (.br (I.ieq k 13) (.fin (.ret (.tup [])) [(.abs (.fm (Go.Ab.Fm.mk m hd bs (4:Int) (Option.some (Go.Ab.Ln.mk (Go.Ab.Ln.b ln) (Go.Ab.Ln.cr ln) (Go.Ab.Ln.code ln))) fs pa sk co out)))]) (.need y1 (.fin (.ret (.tup [])) [(.abs (.fm y0))]))) (.need y1 (.fin (.ret (.tup [])) [(.abs (.fm y0))])))))) (.br (I.ieq p 1) (.br (I.ieq k 45) (.fin (.ret (.tup [])) [(.abs (.fm (Go.Ab.Fm.mk m hd bs (2:Int) (Option.some (Go.Ab.Ln.mk (Go.Ab.Ln.b ln) (Go.Ab.Ln.cr ln) (Go.Ab.Ln.code ln))) fs pa sk co out)))]) (.br (I.ieq p 2) (.br (I.ieq k 45) (.need y3 (.fin (.ret (.tup [])) [(.abs (.fm (Go.Ab.Fm.mk m hd bs (7:Int) (Option.some (Go.Ab.Ln.mk (Go.Ab.Ln.b ln) (Go.Ab.Ln.cr ln) (Go.Ab.Ln.code ln))) fs pa sk co y2)))])) (.br (I.bnot (I.ieq p 2)) (.br (I.ieq k 9) (.fin (.ret (.tup [])) [(.abs (.fm (Go.Ab.Fm.mk m hd bs (3:Int) (Option.some (Go.Ab.Ln.mk (Go.Ab.Ln.b ln) (Go.Ab.Ln.cr ln) (Go.Ab.Ln.code ln))) fs pa sk co out)))]) (.br (I.bnot (I.ieq p 2)) (.br (I.ieq k 13) (.fin (.ret (.tup [])) [(.abs (.fm (Go.Ab.Fm.mk m hd bs (4:Int) (Option.some (Go.Ab.Ln.mk (Go.Ab.Ln.b ln) (Go.Ab.Ln.cr ln) (Go.Ab.Ln.code ln))) fs pa sk co out)))]) (.need y1 (.fin (.ret (.tup [])) [(.abs (.fm y0))]))) (.need y1 (.fin (.ret (.tup [])) [(.abs (.fm y0))])))) (.br (I.bnot (I.ieq p 2)) (.br (I.ieq k 13) (.fin (.ret (.tup [])) [(.abs (.fm (Go.Ab.Fm.mk m hd bs (4:Int) (Option.some (Go.Ab.Ln.mk (Go.Ab.Ln.b ln) (Go.Ab.Ln.cr ln) (Go.Ab.Ln.code ln))) fs pa sk co out)))]) (.need y1 (.fin (.ret (.tup [])) [(.abs (.fm y0))]))) (.need y1 (.fin (.ret (.tup [])) [(.abs (.fm y0))]))))) (.br (I.bnot (I.ieq p 2)) (.br (I.ieq k 9) (.fin (.ret (.tup [])) [(.abs (.fm (Go.Ab.Fm.mk m hd bs (3:Int) (Option.some (Go.Ab.Ln.mk (Go.Ab.Ln.b ln) (Go.Ab.Ln.cr ln) (Go.Ab.Ln.code ln))) fs pa sk co out)))]) (.br (I.bnot (I.ieq p 2)) (.br (I.ieq k 13) (.fin (.ret (.tup [])) [(.abs (.fm (Go.Ab.Fm.mk m hd bs (4:Int) (Option.some (Go.Ab.Ln.mk (Go.Ab.Ln.b ln) (Go.Ab.Ln.cr ln) (Go.Ab.Ln.code ln))) fs pa sk co out)))]) (.need y1 (.fin (.ret (.tup [])) [(.abs (.fm y0))]))) (.need y1 (.fin (.ret (.tup [])) [(.abs (.fm y0))])))) (.br (I.bnot (I.ieq p 2)) (.br (I.ieq k 13) (.fin (.ret (.tup [])) [(.abs (.fm (Go.Ab.Fm.mk m hd bs (4:Int) (Option.some (Go.Ab.Ln.mk (Go.Ab.Ln.b ln) (Go.Ab.Ln.cr ln) (Go.Ab.Ln.code ln))) fs pa sk co out)))]) (.need y1 (.fin (.ret (.tup [])) [(.abs (.fm y0))]))) (.need y1 (.fin (.ret (.tup [])) [(.abs (.fm y0))])))))) (.br (I.ieq p 2) (.br (I.ieq k 45) (.need y3 (.fin (.ret (.tup [])) [(.abs (.fm (Go.Ab.Fm.mk m hd bs (7:Int) (Option.some (Go.Ab.Ln.mk (Go.Ab.Ln.b ln) (Go.Ab.Ln.cr ln) (Go.Ab.Ln.code ln))) fs pa sk co y2)))])) (.br (I.bnot (I.ieq p 2)) (.br (I.ieq k 9) (.fin (.ret (.tup [])) [(.abs (.fm (Go.Ab.Fm.mk m hd bs (3:Int) (Option.some (Go.Ab.Ln.mk (Go.Ab.Ln.b ln) (Go.Ab.Ln.cr ln) (Go.Ab.Ln.code ln))) fs pa sk co out)))]) (.br (I.bnot (I.ieq p 2)) (.br (I.ieq k 13) (.fin (.ret (.tup [])) [(.abs (.fm (Go.Ab.Fm.mk m hd bs (4:Int) (Option.some (Go.Ab.Ln.mk (Go.Ab.Ln.b ln) (Go.Ab.Ln.cr ln) (Go.Ab.Ln.code ln))) fs pa sk co out)))]) (.need y1 (.fin (.ret (.tup [])) [(.abs (.fm y0))]))) (.need y1 (.fin (.ret (.tup [])) [(.abs (.fm y0))])))) (.br (I.bnot (I.ieq p 2)) (.br (I.ieq k 13) (.fin (.ret (.tup [])) [(.abs (.fm (Go.Ab.Fm.mk m hd bs (4:Int) (Option.some (Go.Ab.Ln.mk (Go.Ab.Ln.b ln) (Go.Ab.Ln.cr ln) (Go.Ab.Ln.code ln))) fs pa sk co out)))]) (.need y1 (.fin (.ret (.tup [])) [(.abs (.fm y0))]))) (.need y1 (.fin (.ret (.tup [])) [(.abs (.fm y0))]))))) (.br (I.bnot (I.ieq p 2)) (.br (I.ieq k 9) (.fin (.ret (.tup [])) [(.abs (.fm (Go.Ab.Fm.mk m hd bs (3:Int) (Option.some (Go.Ab.Ln.mk (Go.Ab.Ln.b ln) (Go.Ab.Ln.cr ln) (Go.Ab.Ln.code ln))) fs pa sk co out)))]) (.br (I.bnot (I.ieq p 2)) (.br (I.ieq k 13) (.fin (.ret (.tup [])) [(.abs (.fm (Go.Ab.Fm.mk m hd bs (4:Int) (Option.some (Go.Ab.Ln.mk (Go.Ab.Ln.b ln) (Go.Ab.Ln.cr ln) (Go.Ab.Ln.code ln))) fs pa sk co out)))]) (.need y1 (.fin (.ret (.tup [])) [(.abs (.fm y0))]))) (.need y1 (.fin (.ret (.tup [])) [(.abs (.fm y0))])))) (.br (I.bnot (I.ieq p 2)) (.br (I.ieq k 13) (.fin (.ret (.tup [])) [(.abs (.fm (Go.Ab.Fm.mk m hd bs (4:Int) (Option.some (Go.Ab.Ln.mk (Go.Ab.Ln.b ln) (Go.Ab.Ln.cr ln) (Go.Ab.Ln.code ln))) fs pa sk co out)))]) (.need y1 (.fin (.ret (.tup [])) [(.abs (.fm y0))]))) (.need y1 (.fin (.ret (.tup [])) [(.abs (.fm y0))]))))))) (by kernel_rfl) ?_
  simp only [zn]
  subst hI
  simp only [nrmA,nrmB,nrlB,reduceCtorEq,HO.abs.injEq,Gh.fm.injEq]
  (repeat' (first|refine And.intro ?_ ?_|intro _))<;>first|omega|exact True.intro|exact False.elim ‹False›|skip
  all_goals first
    |omega
    |(unfold yc;simp only;omega)
    |(subst hr;simp [*,zG,evE,hd0,prt0];done)
theorem zfQ (f:Fm) (k:Int) (hneed:yc f∧0≤k∧k≤255):Spc Tryz.prog 52 [.v (.one (.ptr 0 0)),.v (.one (.p (.int .u8 k)))] [.abs (.fm f)] (.ret (.tup [])) [.abs (.fm ((zJ f (UInt8.ofNat k.toNat))))]:=by
  obtain⟨m,hd,bs,p,ln,fs,pa,sk,co,out⟩:=f
  cases ln with
  |none=>exact UZ m hd bs p fs pa sk co out k hneed
  |some ln=>exact zec m hd bs p ln fs pa sk co out k hneed
def sJ (I:Alg) (args:List D) (hp:List HO):Option CT:=match args,hp with
  |[.v (.one (.ptr 0 0)),.v (.one (.p (.int .u8 k)))],[.abs (.fm f)]=>(fun(f:Fm) (k:Int)=>(some (.one ⟨I.hid (yc f∧0≤k∧k≤255),(.ret (.tup [])),[.abs (.fm (I.hid ((zJ f (UInt8.ofNat k.toNat)))))]⟩):Option CT)) f k
  |_,_=>none
theorem VJ:zy Tryz.prog 52 (sJ alg):=by
  intro args hp r h
  unfold sJ at h
  split at h
  · cases h;exact fun hn=>zfQ _ _ hn
  · cases h
def VI:Know Tryz.prog:=⟨52,sJ,VJ⟩
def VH:Know Tryz.prog:=⟨52,fun I=>zA I (sJ I),zf VJ⟩
structure FmS (f:Fm):Prop where
  bs:f.bs=wG f.mark
  ml:f.mark.length≤1000000
  h0:0≤f.held
  h1:f.mark=[]∨f.held<f.mark.length
  s0:0≤f.skip∧f.skip≤2
theorem zax (m:Str) (hd:Int) (bs:List Int) (p:Int) (fs:List Fld) (pa sk co:Int) (out:List Evt) (k:Int) (hneed:fm9 ⟨m,hd,bs,p,none,fs,pa,sk,co,out⟩∧FmS ⟨m,hd,bs,p,none,fs,pa,sk,co,out⟩∧0≤k∧k≤255):Spc Tryz.prog 51 [.v (.one (.ptr 0 0)),.v (.one (.p (.int .u8 k)))] [.abs (.fm ⟨m,hd,bs,p,none,fs,pa,sk,co,out⟩)] (.ret (.tup [])) [.abs (.fm ((yg ⟨m,hd,bs,p,none,fs,pa,sk,co,out⟩ (UInt8.ofNat k.toNat))))]:=by
  obtain⟨hneed,⟨hbs,hml,hh0,hh1,hs0⟩,h0,h1⟩:=hneed
  unfold fm9 at hneed
  simp only at hneed hbs hml hh0 hh1 hs0
  generalize hr:yg ⟨m,hd,bs,p,none,fs,pa,sk,co,out⟩ (UInt8.ofNat k.toNat)=r
  unfold yg yI fmSk at hr
  simp only [Int.min_def] at hr
  refine spcG zi mixed Tryz.func51 (by kernel_rfl) { cfgF with fz:=[75],keep:=some [0,1,4,5,6]} [Y4,Y3,wB,wz,wV,wU] (by kernel_rfl) ?_
  intro I X hI hX
  refine zh (let y0:=I.len (α:=UInt8) (I.hid (α:=Str) (Prod.fst (yh m (Int.toNat hd) (UInt8.ofNat (Int.toNat k)))));let y1:=I.hid (α:=Int) (Nat.cast (Prod.fst (Prod.snd (yh m (Int.toNat hd) (UInt8.ofNat (Int.toNat k))))));let y2:=I.hid (α:=(List Go.Ab.Evt)) (HAppend.hAppend out ([(Go.Ab.Evt.mk (2:Int) (Hd.mk ([]:Str) ([]:Str) (0:Int) ([]:List Fld) (0:Int)) (I.cut (α:=UInt8) (I.hid (α:=Str) (Prod.fst (yh m (Int.toNat hd) (UInt8.ofNat (Int.toNat k))))) (I.imin sk y0) y0) (Go.Ab.Prt.mk ([]:Str) ([]:Str) ([]:Str) ([]:Str)) (0:Int))]:List Go.Ab.Evt));let y3:=I.hid (α:=(List Go.Ab.Evt)) (HAppend.hAppend out ([(Go.Ab.Evt.mk (6:Int) (Hd.mk ([]:Str) ([]:Str) (0:Int) ([]:List Fld) (0:Int)) ([]:Str) (Go.Ab.Prt.mk ([]:Str) ([]:Str) ([]:Str) ([]:Str)) (0:Int))]:List Go.Ab.Evt));let y4:=I.hid (α:=(Prop)) (yc (Go.Ab.Fm.mk m y1 bs p (Option.none) fs pa (I.sub sk (I.imin sk y0)) co out));let y5:=I.bnot (I.hid (α:=Bool) (Prod.snd (Prod.snd (yh m (Int.toNat hd) (UInt8.ofNat (Int.toNat k))))));.need (I.hid (α:=(Prop)) (And (Eq bs (wG m)) (And (LE.le (List.length m) 1000000) (And (LE.le (0:Int) hd) (And (Or (Eq m ([]:Str)) (LT.lt hd (Nat.cast (List.length m)))) (And (LE.le (0:Int) k) (LE.le k (255:Int)))))))) (.need (I.inr Go.IntKind.i64 (I.sub sk (I.imin sk y0))) (.need (I.cutb (I.imin sk y0) y0 y0) (.br (I.ieq p 6) (.br (I.ilt 0 (I.sub y0 (I.imin sk y0))) (.need y4 (.br y5 (.fin (.ret (.tup [])) [(.abs (.fm (Go.Ab.Fm.mk m y1 bs p (Option.none) fs pa (I.sub sk (I.imin sk y0)) co y2)))]) (.br (I.ieq p 6) (.need (I.hid (α:=(Prop)) (yc (Go.Ab.Fm.mk m y1 bs p (Option.none) fs pa (I.sub sk (I.imin sk y0)) co y2))) (.fin (.ret (.tup [])) [(.abs (.fm (Go.Ab.Fm.mk m y1 bs (1:Int) (Option.none) fs pa (0:Int) co (I.hid (α:=(List Go.Ab.Evt)) (HAppend.hAppend y2 ([(Go.Ab.Evt.mk (6:Int) (Hd.mk ([]:Str) ([]:Str) (0:Int) ([]:List Fld) (0:Int)) ([]:Str) (Go.Ab.Prt.mk ([]:Str) ([]:Str) ([]:Str) ([]:Str)) (0:Int))]:List Go.Ab.Evt))))))])) (.fin (.ret (.tup [])) [(.abs (.fm (Go.Ab.Fm.mk m y1 bs (1:Int) (Option.none) fs pa (0:Int) co y2)))])))) (.br y5 (.fin (.ret (.tup [])) [(.abs (.fm (Go.Ab.Fm.mk m y1 bs p (Option.none) fs pa (I.sub sk (I.imin sk y0)) co out)))]) (.br (I.ieq p 6) (.need y4 (.fin (.ret (.tup [])) [(.abs (.fm (Go.Ab.Fm.mk m y1 bs (1:Int) (Option.none) fs pa (0:Int) co y3)))])) (.fin (.ret (.tup [])) [(.abs (.fm (Go.Ab.Fm.mk m y1 bs (1:Int) (Option.none) fs pa (0:Int) co out)))])))) (.br y5 (.fin (.ret (.tup [])) [(.abs (.fm (Go.Ab.Fm.mk m y1 bs p (Option.none) fs pa (I.sub sk (I.imin sk y0)) co out)))]) (.br (I.ieq p 6) (.need y4 (.fin (.ret (.tup [])) [(.abs (.fm (Go.Ab.Fm.mk m y1 bs (1:Int) (Option.none) fs pa (0:Int) co y3)))])) (.fin (.ret (.tup [])) [(.abs (.fm (Go.Ab.Fm.mk m y1 bs (1:Int) (Option.none) fs pa (0:Int) co out)))]))))))) (by kernel_rfl) ?_
  simp only [zn]
  generalize yh m hd.toNat (UInt8.ofNat k.toNat)=q at *
  obtain⟨o,n2,fd⟩:=q
  subst hI
  simp only [nrmA,nrmB,nrlB,reduceCtorEq,HO.abs.injEq,Gh.fm.injEq]
  simp only at hr
  have hn:0≤(if sk≤(o.length:Int) then sk else(o.length:Int))∧(if sk≤(o.length:Int) then sk else(o.length:Int))≤o.length∧(if sk≤(o.length:Int) then sk else(o.length:Int))≤sk:=by split<;>omega
  generalize(if sk≤(o.length:Int) then sk else(o.length:Int))=n at *
  rw [List.take_of_length_le (show(o.drop n.toNat).length≤o.length - n.toNat by rw [List.length_drop];exact Nat.le_refl _)]
  have hne:0<(o.length:Int) - n→¬ o.drop n.toNat=[]:=fun h k=>by have:=congrArg List.length k;rw [List.length_drop,List.length_nil] at this;omega
  have hnn: ¬ 0<(o.length:Int) - n→o.drop n.toNat=[]:=fun h=>List.drop_of_length_le (by omega)
  generalize o.drop n.toNat=D at *
  (repeat' (first|refine And.intro ?_ ?_|intro _))<;>first|omega|exact True.intro|exact False.elim ‹False›|skip
  all_goals first
    |omega
    |with_reducible assumption
    |(unfold yc;simp only [List.length_append,List.length_singleton];omega)
    |(have hne:=hne (by omega);clear hnn;subst hr;simp [*,evB,evO,hd0,prt0];done)
    |(have hnn:=hnn (by omega);clear hne;subst hr;simp [*,evB,evO,hd0,prt0];done)
    |(clear hne hnn;subst hr;simp [*,evB,evO,hd0,prt0];done)
def sH (I:Alg) (args:List D) (hp:List HO):Option CT:=match args,hp with
  |[.v (.one (.ptr 0 0)),.v (.one (.p (.int .u8 k)))],[.abs (.fm ⟨m,hd,bs,p,none,fs,pa,sk,co,out⟩)]=>(fun(m:Str) (hd:Int) (bs:List Int) (p:Int) (fs:List Fld) (pa sk co:Int) (out:List Evt) (k:Int)=>(some (.one ⟨I.hid (fm9 ⟨m,hd,bs,p,none,fs,pa,sk,co,out⟩∧FmS ⟨m,hd,bs,p,none,fs,pa,sk,co,out⟩∧0≤k∧k≤255),(.ret (.tup [])),[.abs (.fm (I.hid ((yg ⟨m,hd,bs,p,none,fs,pa,sk,co,out⟩ (UInt8.ofNat k.toNat)))))]⟩):Option CT)) m hd bs p fs pa sk co out k
  |_,_=>none
theorem VG:zy Tryz.prog 51 (sH alg):=by
  intro args hp r h
  unfold sH at h
  split at h
  · cases h;exact fun hn=>zax _ _ _ _ _ _ _ _ _ _ hn
  · cases h
def zbv:Know Tryz.prog:=⟨51,sH,VG⟩
def zbu:Know Tryz.prog:=⟨51,fun I=>zA I (sH I),zf VG⟩
theorem zfO (m:Str) (hd:Int) (bs:List Int) (p:Int) (ln:Ln) (fs:List Fld) (pa sk co:Int) (out:List Evt) (k:Int) (hneed:fm9 ⟨m,hd,bs,p,some ln,fs,pa,sk,co,out⟩∧FmS ⟨m,hd,bs,p,some ln,fs,pa,sk,co,out⟩∧0≤k∧k≤255):Spc Tryz.prog 51 [.v (.one (.ptr 0 0)),.v (.one (.p (.int .u8 k)))] [.abs (.fm ⟨m,hd,bs,p,some ln,fs,pa,sk,co,out⟩)] (.ret (.tup [])) [.abs (.fm ((yg ⟨m,hd,bs,p,some ln,fs,pa,sk,co,out⟩ (UInt8.ofNat k.toNat))))]:=by
  obtain⟨hneed,⟨hbs,hml,hh0,hh1,hs0⟩,h0,h1⟩:=hneed
  unfold fm9 at hneed
  simp only at hneed hbs hml hh0 hh1 hs0
  generalize hr:yg ⟨m,hd,bs,p,some ln,fs,pa,sk,co,out⟩ (UInt8.ofNat k.toNat)=r
  unfold yg yI fmSk at hr
  simp only [Int.min_def] at hr
  refine spcG zi mixed Tryz.func51 (by kernel_rfl) { cfgF with fz:=[75],keep:=some [0,1,4,5,6]} [Y4,Y3,wB,wz,wV,wU,zbv,zbu] (by kernel_rfl) ?_
  intro I X hI hX
  refine zh (let y0:=I.len (α:=UInt8) (I.hid (α:=Str) (Prod.fst (yh m (Int.toNat hd) (UInt8.ofNat (Int.toNat k)))));let y1:=I.hid (α:=Int) (Nat.cast (Prod.fst (Prod.snd (yh m (Int.toNat hd) (UInt8.ofNat (Int.toNat k))))));let y2:=I.hid (α:=(List Go.Ab.Evt)) (HAppend.hAppend out ([(Go.Ab.Evt.mk (2:Int) (Hd.mk ([]:Str) ([]:Str) (0:Int) ([]:List Fld) (0:Int)) (I.cut (α:=UInt8) (I.hid (α:=Str) (Prod.fst (yh m (Int.toNat hd) (UInt8.ofNat (Int.toNat k))))) (I.imin sk y0) y0) (Go.Ab.Prt.mk ([]:Str) ([]:Str) ([]:Str) ([]:Str)) (0:Int))]:List Go.Ab.Evt));let y3:=I.hid (α:=(Prop)) (yc (Go.Ab.Fm.mk m y1 bs p (Option.some (Go.Ab.Ln.mk (Go.Ab.Ln.b ln) (Go.Ab.Ln.cr ln) (Go.Ab.Ln.code ln))) fs pa (I.sub sk (I.imin sk y0)) co out));let y4:=I.hid (α:=(List Go.Ab.Evt)) (HAppend.hAppend out ([(Go.Ab.Evt.mk (6:Int) (Hd.mk ([]:Str) ([]:Str) (0:Int) ([]:List Fld) (0:Int)) ([]:Str) (Go.Ab.Prt.mk ([]:Str) ([]:Str) ([]:Str) ([]:Str)) (0:Int))]:List Go.Ab.Evt));let y5:=I.bnot (I.hid (α:=Bool) (Prod.snd (Prod.snd (yh m (Int.toNat hd) (UInt8.ofNat (Int.toNat k))))));.need (I.hid (α:=(Prop)) (And (Eq bs (wG m)) (And (LE.le (List.length m) 1000000) (And (LE.le (0:Int) hd) (And (Or (Eq m ([]:Str)) (LT.lt hd (Nat.cast (List.length m)))) (And (LE.le (0:Int) k) (LE.le k (255:Int)))))))) (.need (I.inr Go.IntKind.i64 (I.sub sk (I.imin sk y0))) (.need (I.cutb (I.imin sk y0) y0 y0) (.br (I.ieq p 6) (.br (I.ilt 0 (I.sub y0 (I.imin sk y0))) (.need y3 (.br y5 (.fin (.ret (.tup [])) [(.abs (.fm (Go.Ab.Fm.mk m y1 bs p (Option.some (Go.Ab.Ln.mk (Go.Ab.Ln.b ln) (Go.Ab.Ln.cr ln) (Go.Ab.Ln.code ln))) fs pa (I.sub sk (I.imin sk y0)) co y2)))]) (.br (I.ieq p 6) (.need (I.hid (α:=(Prop)) (yc (Go.Ab.Fm.mk m y1 bs p (Option.some (Go.Ab.Ln.mk (Go.Ab.Ln.b ln) (Go.Ab.Ln.cr ln) (Go.Ab.Ln.code ln))) fs pa (I.sub sk (I.imin sk y0)) co y2))) (.fin (.ret (.tup [])) [(.abs (.fm (Go.Ab.Fm.mk m y1 bs (1:Int) (Option.some (Go.Ab.Ln.mk (Go.Ab.Ln.b ln) (Go.Ab.Ln.cr ln) (Go.Ab.Ln.code ln))) fs pa (0:Int) co (I.hid (α:=(List Go.Ab.Evt)) (HAppend.hAppend y2 ([(Go.Ab.Evt.mk (6:Int) (Hd.mk ([]:Str) ([]:Str) (0:Int) ([]:List Fld) (0:Int)) ([]:Str) (Go.Ab.Prt.mk ([]:Str) ([]:Str) ([]:Str) ([]:Str)) (0:Int))]:List Go.Ab.Evt))))))])) (.fin (.ret (.tup [])) [(.abs (.fm (Go.Ab.Fm.mk m y1 bs (1:Int) (Option.some (Go.Ab.Ln.mk (Go.Ab.Ln.b ln) (Go.Ab.Ln.cr ln) (Go.Ab.Ln.code ln))) fs pa (0:Int) co y2)))])))) (.br y5 (.fin (.ret (.tup [])) [(.abs (.fm (Go.Ab.Fm.mk m y1 bs p (Option.some (Go.Ab.Ln.mk (Go.Ab.Ln.b ln) (Go.Ab.Ln.cr ln) (Go.Ab.Ln.code ln))) fs pa (I.sub sk (I.imin sk y0)) co out)))]) (.br (I.ieq p 6) (.need y3 (.fin (.ret (.tup [])) [(.abs (.fm (Go.Ab.Fm.mk m y1 bs (1:Int) (Option.some (Go.Ab.Ln.mk (Go.Ab.Ln.b ln) (Go.Ab.Ln.cr ln) (Go.Ab.Ln.code ln))) fs pa (0:Int) co y4)))])) (.fin (.ret (.tup [])) [(.abs (.fm (Go.Ab.Fm.mk m y1 bs (1:Int) (Option.some (Go.Ab.Ln.mk (Go.Ab.Ln.b ln) (Go.Ab.Ln.cr ln) (Go.Ab.Ln.code ln))) fs pa (0:Int) co out)))])))) (.br y5 (.fin (.ret (.tup [])) [(.abs (.fm (Go.Ab.Fm.mk m y1 bs p (Option.some (Go.Ab.Ln.mk (Go.Ab.Ln.b ln) (Go.Ab.Ln.cr ln) (Go.Ab.Ln.code ln))) fs pa (I.sub sk (I.imin sk y0)) co out)))]) (.br (I.ieq p 6) (.need y3 (.fin (.ret (.tup [])) [(.abs (.fm (Go.Ab.Fm.mk m y1 bs (1:Int) (Option.some (Go.Ab.Ln.mk (Go.Ab.Ln.b ln) (Go.Ab.Ln.cr ln) (Go.Ab.Ln.code ln))) fs pa (0:Int) co y4)))])) (.fin (.ret (.tup [])) [(.abs (.fm (Go.Ab.Fm.mk m y1 bs (1:Int) (Option.some (Go.Ab.Ln.mk (Go.Ab.Ln.b ln) (Go.Ab.Ln.cr ln) (Go.Ab.Ln.code ln))) fs pa (0:Int) co out)))]))))))) (by kernel_rfl) ?_
  simp only [zn]
  generalize yh m hd.toNat (UInt8.ofNat k.toNat)=q at *
  obtain⟨o,n2,fd⟩:=q
  subst hI
  simp only [nrmA,nrmB,nrlB,reduceCtorEq,HO.abs.injEq,Gh.fm.injEq]
  simp only at hr
  have hn:0≤(if sk≤(o.length:Int) then sk else(o.length:Int))∧(if sk≤(o.length:Int) then sk else(o.length:Int))≤o.length∧(if sk≤(o.length:Int) then sk else(o.length:Int))≤sk:=by split<;>omega
  generalize(if sk≤(o.length:Int) then sk else(o.length:Int))=n at *
  rw [List.take_of_length_le (show(o.drop n.toNat).length≤o.length - n.toNat by rw [List.length_drop];exact Nat.le_refl _)]
  have hne:0<(o.length:Int) - n→¬ o.drop n.toNat=[]:=fun h k=>by have:=congrArg List.length k;rw [List.length_drop,List.length_nil] at this;omega
  have hnn: ¬ 0<(o.length:Int) - n→o.drop n.toNat=[]:=fun h=>List.drop_of_length_le (by omega)
  generalize o.drop n.toNat=D at *
  (repeat' (first|refine And.intro ?_ ?_|intro _))<;>first|omega|exact True.intro|exact False.elim ‹False›|skip
  all_goals first
    |omega
    |with_reducible assumption
    |(unfold yc;simp only [List.length_append,List.length_singleton];omega)
    |(have hne:=hne (by omega);clear hnn;subst hr;simp [*,evB,evO,hd0,prt0];done)
    |(have hnn:=hnn (by omega);clear hne;subst hr;simp [*,evB,evO,hd0,prt0];done)
    |(clear hne hnn;subst hr;simp [*,evB,evO,hd0,prt0];done)
theorem zhB (f:Fm) (k:Int) (hneed:fm9 f∧FmS f∧0≤k∧k≤255):Spc Tryz.prog 51 [.v (.one (.ptr 0 0)),.v (.one (.p (.int .u8 k)))] [.abs (.fm f)] (.ret (.tup [])) [.abs (.fm ((yg f (UInt8.ofNat k.toNat))))]:=by
  obtain⟨m,hd,bs,p,ln,fs,pa,sk,co,out⟩:=f
  cases ln with
  |none=>exact zax m hd bs p fs pa sk co out k hneed
  |some ln=>exact zfO m hd bs p ln fs pa sk co out k hneed
def qL (I:Alg) (args:List D) (hp:List HO):Option CT:=match args,hp with
  |[.v (.one (.ptr 0 0)),.v (.one (.p (.int .u8 k)))],[.abs (.fm f)]=>(fun(f:Fm) (k:Int)=>(some (.one ⟨I.hid (fm9 f∧FmS f∧0≤k∧k≤255),(.ret (.tup [])),[.abs (.fm (I.hid ((yg f (UInt8.ofNat k.toNat)))))]⟩):Option CT)) f k
  |_,_=>none
theorem UY:zy Tryz.prog 51 (qL alg):=by
  intro args hp r h
  unfold qL at h
  split at h
  · cases h;exact fun hn=>zhB _ _ hn
  · cases h
def UX:Know Tryz.prog:=⟨51,qL,UY⟩
def UW:Know Tryz.prog:=⟨51,fun I=>zA I (qL I),zf UY⟩
end Go.Proofs.YtknaogelmckimaaGreatDoor
namespace Go.Proofs.YtknaogelmckimaaGreatDoor
open Go Go.Sep Go.Ab
set_option maxRecDepth 100000
theorem zhG (m:Str) (n:Nat) (c:UInt8):m=[]∨(yh m n c).2.1<m.length:=by
  unfold yh
  by_cases h:m=[]
  · exact .inl h
  · rw [if_neg h]
    have h0:0<m.length:=by cases m<;>simp_all
    unfold P.feed
    simp only
    repeat' split
    all_goals first|exact .inr h0|(right;assumption)
theorem Yp (m:Str) (n:Nat) (c:UInt8):m=[]∨(((yh m n c).2.1:Nat):Int)<m.length:=(zhG m n c).imp id fun h=>by omega
theorem TI (l:List Fld):(zM l).1.bytes=[]:=by
  unfold zM zg5
  repeat' split
  all_goals rfl
def FdOk (f:List Fld):Prop:=f.length≤1000∧∀ x ∈ f,x.name.length≤1000000∧x.value.length≤1000000
structure FmB (f:Fm):Prop where
  few:f.out.length≤9000000
  sk:FmS f
  fd:FdOk f.fields
  p0:0≤f.parts∧f.parts≤12
theorem zfS (m:Str) (hd:Int) (bs:List Int) (p:Int) (fs:List Fld) (pa sk co:Int) (out:List Evt) (hneed:FmB ⟨m,hd,bs,p,none,fs,pa,sk,co,out⟩):Spc Tryz.prog 77 [.v (.one (.ptr 0 0))] [.abs (.fm ⟨m,hd,bs,p,none,fs,pa,sk,co,out⟩)] (.ret (.tup [])) [.abs (.fm ((yD ⟨m,hd,bs,p,none,fs,pa,sk,co,out⟩)))]:=by
  obtain⟨h9,⟨hbs,hml,hh0,hh1,hs0⟩,⟨hfl,hff⟩,hp0⟩:=hneed
  simp only at h9 hbs hml hh0 hh1 hs0 hfl hff hp0
  generalize hr:yD ⟨m,hd,bs,p,none,fs,pa,sk,co,out⟩=r
  have hb:=TI fs
  unfold yD at hr
  simp only [zG,fmSk,evP,evF,Int.toNat_natCast] at hr
  refine spcG zi mixed Tryz.func77 (by kernel_rfl) { cfgF with keep:=some [0,2,3]} [Y4,Y3,zdb,zda,wB,wz,wV,wU,wX,wW] (by kernel_rfl) ?_
  intro I X hI hX
  refine zh (let y0:=I.hid (α:=(Prop)) (And (Eq bs (wG m)) (And (LE.le (List.length m) 1000000) (And (LE.le (0:Int) (I.hid (α:=Int) (Nat.cast (Prod.fst (Prod.snd (yh m (Int.toNat hd) (UInt8.ofNat (Int.toNat (13:Int))))))))) (And (Or (Eq m ([]:Str)) (LT.lt (I.hid (α:=Int) (Nat.cast (Prod.fst (Prod.snd (yh m (Int.toNat hd) (UInt8.ofNat (Int.toNat (13:Int)))))))) (Nat.cast (List.length m)))) (And (LE.le (0:Int) (10:Int)) (LE.le (10:Int) (255:Int)))))));let y1:=I.hid (α:=(List Go.Ab.Evt)) (HAppend.hAppend out ([(Go.Ab.Evt.mk (5:Int) (Hd.mk ([]:Str) ([]:Str) (0:Int) ([]:List Fld) (0:Int)) ([]:Str) (Go.Ab.Prt.mk (I.hid (α:=Str) (Go.Ab.Prt.name (Prod.fst (zM fs)))) (I.hid (α:=Str) (Go.Ab.Prt.file (Prod.fst (zM fs)))) (I.hid (α:=Str) (Go.Ab.Prt.type (Prod.fst (zM fs)))) ([]:Str)) (0:Int))]:List Go.Ab.Evt));let y2:=I.hid (α:=(Prop)) (And (Eq bs (wG m)) (And (LE.le (List.length m) 1000000) (And (LE.le (0:Int) hd) (And (Or (Eq m ([]:Str)) (LT.lt hd (Nat.cast (List.length m)))) (And (LE.le (0:Int) (13:Int)) (LE.le (13:Int) (255:Int)))))));let y3:=I.hid (α:=Int) (Nat.cast (Prod.fst (Prod.snd (yh m (Int.toNat (I.hid (α:=Int) (Nat.cast (Prod.fst (Prod.snd (yh m (Int.toNat hd) (UInt8.ofNat (Int.toNat (13:Int))))))))) (UInt8.ofNat (Int.toNat (10:Int)))))));let y4:=I.hid (α:=(Prop)) (yc (Go.Ab.Fm.mk m hd bs (6:Int) (Option.none) fs (I.add pa 1) sk co out));let y5:=I.hid (α:=(Prop)) (yc (Go.Ab.Fm.mk m hd bs p (Option.none) fs pa sk co out));let y6:=I.hid (α:=Int) (Prod.snd (zM fs));let y7:=I.hid (α:=Go.Ab.Fm) (zG (Go.Ab.Fm.mk m hd bs p (Option.none) fs pa sk co out) y6);let y8:=I.inr Go.IntKind.i64 (I.add pa 1);.need (I.hid (α:=(Prop)) (And (LE.le (List.length fs) 1000) (∀ (f:Fld),f ∈ fs→List.length f.name≤1000000∧List.length f.value≤1000000))) (.br (I.ieq y6 0) (.br (I.ieq pa 12) (.br (I.bnot (I.ieq 8 0)) (.need y5 (.fin (.ret (.tup [])) [(.abs (.fm (I.hid (α:=Go.Ab.Fm) (zG (Go.Ab.Fm.mk m hd bs p (Option.none) fs pa sk co out) (8:Int)))))])) (.need y8 (.need y4 (.need y2 (.need y0 (.fin (.ret (.tup [])) [(.abs (.fm (Go.Ab.Fm.mk m y3 bs (6:Int) (Option.none) fs (I.add pa 1) (2:Int) co y1)))])))))) (.br (I.bnot (I.ieq y6 0)) (.need y5 (.fin (.ret (.tup [])) [(.abs (.fm y7))])) (.need y8 (.need y4 (.need y2 (.need y0 (.fin (.ret (.tup [])) [(.abs (.fm (Go.Ab.Fm.mk m y3 bs (6:Int) (Option.none) fs (I.add pa 1) (2:Int) co y1)))]))))))) (.br (I.bnot (I.ieq y6 0)) (.need y5 (.fin (.ret (.tup [])) [(.abs (.fm y7))])) (.need y8 (.need y4 (.need y2 (.need y0 (.fin (.ret (.tup [])) [(.abs (.fm (Go.Ab.Fm.mk m y3 bs (6:Int) (Option.none) fs (I.add pa 1) (2:Int) co y1)))])))))))) (by kernel_rfl) ?_
  simp only [zn]
  have hl1:=Yp m hd.toNat 13
  generalize zM fs=P at *
  obtain⟨⟨a,b,c,d⟩,e⟩:=P
  simp only at hb hr
  subst hb
  subst hI
  simp only [nrmA,nrmB,nrlB,reduceCtorEq,HO.abs.injEq,Gh.fm.injEq]
  (repeat' (first|refine And.intro ?_ ?_|intro _))<;>first|omega|exact True.intro|exact False.elim ‹False›|skip
  all_goals first
    |omega
    |with_reducible assumption
    |exact(hff _ ‹_›).1
    |exact(hff _ ‹_›).2
    |(unfold yc;simp only [List.length_append,List.length_singleton];omega)
    |exact hl1
    |(subst hr;simp [*,evF,hd0,prt0,zG];done)
theorem zfR (m:Str) (hd:Int) (bs:List Int) (p:Int) (ln:Ln) (fs:List Fld) (pa sk co:Int) (out:List Evt) (hneed:FmB ⟨m,hd,bs,p,some ln,fs,pa,sk,co,out⟩):Spc Tryz.prog 77 [.v (.one (.ptr 0 0))] [.abs (.fm ⟨m,hd,bs,p,some ln,fs,pa,sk,co,out⟩)] (.ret (.tup [])) [.abs (.fm ((yD ⟨m,hd,bs,p,some ln,fs,pa,sk,co,out⟩)))]:=by
  obtain⟨h9,⟨hbs,hml,hh0,hh1,hs0⟩,⟨hfl,hff⟩,hp0⟩:=hneed
  simp only at h9 hbs hml hh0 hh1 hs0 hfl hff hp0
  generalize hr:yD ⟨m,hd,bs,p,some ln,fs,pa,sk,co,out⟩=r
  have hb:=TI fs
  unfold yD at hr
  simp only [zG,fmSk,evP,evF,Int.toNat_natCast] at hr
  refine spcG zi mixed Tryz.func77 (by kernel_rfl) { cfgF with keep:=some [0,2,3]} [Y4,Y3,zdb,zda,wB,wz,wV,wU,wX,wW] (by kernel_rfl) ?_
  intro I X hI hX
  refine zh (let y0:=I.hid (α:=(Prop)) (And (Eq bs (wG m)) (And (LE.le (List.length m) 1000000) (And (LE.le (0:Int) (I.hid (α:=Int) (Nat.cast (Prod.fst (Prod.snd (yh m (Int.toNat hd) (UInt8.ofNat (Int.toNat (13:Int))))))))) (And (Or (Eq m ([]:Str)) (LT.lt (I.hid (α:=Int) (Nat.cast (Prod.fst (Prod.snd (yh m (Int.toNat hd) (UInt8.ofNat (Int.toNat (13:Int)))))))) (Nat.cast (List.length m)))) (And (LE.le (0:Int) (10:Int)) (LE.le (10:Int) (255:Int)))))));let y1:=I.hid (α:=(List Go.Ab.Evt)) (HAppend.hAppend out ([(Go.Ab.Evt.mk (5:Int) (Hd.mk ([]:Str) ([]:Str) (0:Int) ([]:List Fld) (0:Int)) ([]:Str) (Go.Ab.Prt.mk (I.hid (α:=Str) (Go.Ab.Prt.name (Prod.fst (zM fs)))) (I.hid (α:=Str) (Go.Ab.Prt.file (Prod.fst (zM fs)))) (I.hid (α:=Str) (Go.Ab.Prt.type (Prod.fst (zM fs)))) ([]:Str)) (0:Int))]:List Go.Ab.Evt));let y2:=I.hid (α:=(Prop)) (And (Eq bs (wG m)) (And (LE.le (List.length m) 1000000) (And (LE.le (0:Int) hd) (And (Or (Eq m ([]:Str)) (LT.lt hd (Nat.cast (List.length m)))) (And (LE.le (0:Int) (13:Int)) (LE.le (13:Int) (255:Int)))))));let y3:=I.hid (α:=Int) (Nat.cast (Prod.fst (Prod.snd (yh m (Int.toNat (I.hid (α:=Int) (Nat.cast (Prod.fst (Prod.snd (yh m (Int.toNat hd) (UInt8.ofNat (Int.toNat (13:Int))))))))) (UInt8.ofNat (Int.toNat (10:Int)))))));let y4:=I.hid (α:=(Prop)) (yc (Go.Ab.Fm.mk m hd bs (6:Int) (Option.some (Go.Ab.Ln.mk (Go.Ab.Ln.b ln) (Go.Ab.Ln.cr ln) (Go.Ab.Ln.code ln))) fs (I.add pa 1) sk co out));let y5:=I.hid (α:=(Prop)) (yc (Go.Ab.Fm.mk m hd bs p (Option.some (Go.Ab.Ln.mk (Go.Ab.Ln.b ln) (Go.Ab.Ln.cr ln) (Go.Ab.Ln.code ln))) fs pa sk co out));let y6:=I.hid (α:=Go.Ab.Fm) (zG (Go.Ab.Fm.mk m hd bs p (Option.some (Go.Ab.Ln.mk (Go.Ab.Ln.b ln) (Go.Ab.Ln.cr ln) (Go.Ab.Ln.code ln))) fs pa sk co out) (I.hid (α:=Int) (Prod.snd (zM fs))));let y7:=I.ieq (I.hid (α:=Int) (Prod.snd (zM fs))) 0;let y8:=I.inr Go.IntKind.i64 (I.add pa 1);.need (I.hid (α:=(Prop)) (And (LE.le (List.length fs) 1000) (∀ (f:Fld),f ∈ fs→List.length f.name≤1000000∧List.length f.value≤1000000))) (.br y7 (.br (I.ieq pa 12) (.br (I.bnot (I.ieq 8 0)) (.need y5 (.fin (.ret (.tup [])) [(.abs (.fm (I.hid (α:=Go.Ab.Fm) (zG (Go.Ab.Fm.mk m hd bs p (Option.some (Go.Ab.Ln.mk (Go.Ab.Ln.b ln) (Go.Ab.Ln.cr ln) (Go.Ab.Ln.code ln))) fs pa sk co out) (8:Int)))))])) (.need y8 (.need y4 (.need y2 (.need y0 (.fin (.ret (.tup [])) [(.abs (.fm (Go.Ab.Fm.mk m y3 bs (6:Int) (Option.some (Go.Ab.Ln.mk (Go.Ab.Ln.b ln) (Go.Ab.Ln.cr ln) (Go.Ab.Ln.code ln))) fs (I.add pa 1) (2:Int) co y1)))])))))) (.br (I.bnot y7) (.need y5 (.fin (.ret (.tup [])) [(.abs (.fm y6))])) (.need y8 (.need y4 (.need y2 (.need y0 (.fin (.ret (.tup [])) [(.abs (.fm (Go.Ab.Fm.mk m y3 bs (6:Int) (Option.some (Go.Ab.Ln.mk (Go.Ab.Ln.b ln) (Go.Ab.Ln.cr ln) (Go.Ab.Ln.code ln))) fs (I.add pa 1) (2:Int) co y1)))]))))))) (.br (I.bnot y7) (.need y5 (.fin (.ret (.tup [])) [(.abs (.fm y6))])) (.need y8 (.need y4 (.need y2 (.need y0 (.fin (.ret (.tup [])) [(.abs (.fm (Go.Ab.Fm.mk m y3 bs (6:Int) (Option.some (Go.Ab.Ln.mk (Go.Ab.Ln.b ln) (Go.Ab.Ln.cr ln) (Go.Ab.Ln.code ln))) fs (I.add pa 1) (2:Int) co y1)))])))))))) (by kernel_rfl) ?_
  simp only [zn]
  have hl1:=Yp m hd.toNat 13
  generalize zM fs=P at *
  obtain⟨⟨a,b,c,d⟩,e⟩:=P
  simp only at hb hr
  subst hb
  subst hI
  simp only [nrmA,nrmB,nrlB,reduceCtorEq,HO.abs.injEq,Gh.fm.injEq]
  (repeat' (first|refine And.intro ?_ ?_|intro _))<;>first|omega|exact True.intro|exact False.elim ‹False›|skip
  all_goals first
    |omega
    |with_reducible assumption
    |exact(hff _ ‹_›).1
    |exact(hff _ ‹_›).2
    |(unfold yc;simp only [List.length_append,List.length_singleton];omega)
    |exact hl1
    |(subst hr;simp [*,evF,hd0,prt0,zG];done)
theorem zhC (f:Fm) (hneed:FmB f):Spc Tryz.prog 77 [.v (.one (.ptr 0 0))] [.abs (.fm f)] (.ret (.tup [])) [.abs (.fm ((yD f)))]:=by
  obtain⟨m,hd,bs,p,ln,fs,pa,sk,co,out⟩:=f
  cases ln with
  |none=>exact zfS m hd bs p fs pa sk co out hneed
  |some ln=>exact zfR m hd bs p ln fs pa sk co out hneed
def qM (I:Alg) (args:List D) (hp:List HO):Option CT:=match args,hp with
  |[.v (.one (.ptr 0 0))],[.abs (.fm f)]=>(fun(f:Fm)=>(some (.one ⟨I.hid (FmB f),(.ret (.tup [])),[.abs (.fm (I.hid ((yD f))))]⟩):Option CT)) f
  |_,_=>none
theorem U2:zy Tryz.prog 77 (qM alg):=by
  intro args hp r h
  unfold qM at h
  split at h
  · cases h;exact fun hn=>zhC _ hn
  · cases h
def U1:Know Tryz.prog:=⟨77,qM,U2⟩
def U0:Know Tryz.prog:=⟨77,fun I=>zA I (qM I),zf U2⟩
theorem zhs (m:Str) (hd:Int) (bs:List Int) (p:Int) (fs:List Fld) (pa sk co:Int) (out:List Evt) (s:Str) (hneed:FmB ⟨m,hd,bs,p,none,fs,pa,sk,co,out⟩∧s.length≤1000000):Spc Tryz.prog 56 [.v (.one (.ptr 0 0)),.v (.one (.p (.str s)))] [.abs (.fm ⟨m,hd,bs,p,none,fs,pa,sk,co,out⟩)] (.ret (.tup [])) [.abs (.fm ((xH ⟨m,hd,bs,p,none,fs,pa,sk,co,out⟩ s)))]:=by
  obtain⟨⟨h9,hS,⟨hfl,hff⟩,hp0⟩,hs⟩:=hneed
  simp only at h9 hfl hff hp0
  generalize hr:xH ⟨m,hd,bs,p,none,fs,pa,sk,co,out⟩ s=r
  unfold xH at hr
  simp only at hr
  refine spcG zi mixed Tryz.func56 (by kernel_rfl) { cfgF with keep:=some [0,1,4,5]} [zcp,zco,wX,wW,U1,U0] (by kernel_rfl) ?_
  intro I X hI hX
  refine zh (let y3:=I.hid (α:=Str) (Fld.name (Prod.fst (zF s)));let y2:=I.hid (α:=Str) (Fld.value (Prod.fst (zF s)));let y0:=I.few (I.add (I.len (α:=Fld) fs) (I.len (α:=Fld) ([(Fld.mk y3 y2)]:List Fld))) 100000000;let y1:=I.hid (α:=(Prop)) (yc (Go.Ab.Fm.mk m hd bs p (Option.none) fs pa sk co out));let y4:=I.hid (α:=Int) (Prod.snd (zF s));.br (I.seq s ([]:Str)) (.need (I.hid (α:=(Prop)) (FmB (Go.Ab.Fm.mk m hd bs p (Option.none) fs pa sk co out))) (.fin (.ret (.tup [])) [(.abs (.fm (I.hid (α:=Go.Ab.Fm) (yD (Go.Ab.Fm.mk m hd bs p (Option.none) fs pa sk co out)))))])) (.br (I.ieq (I.len (α:=Fld) fs) 16) (.need y1 (.fin (.ret (.tup [])) [(.abs (.fm (I.hid (α:=Go.Ab.Fm) (zG (Go.Ab.Fm.mk m hd bs p (Option.none) fs pa sk co out) (8:Int)))))])) (.need (I.hid (α:=(Prop)) (LE.le (List.length s) 1000000)) (.br (I.bnot (I.ieq y4 0)) (.need y1 (.fin (.ret (.tup [])) [(.abs (.fm (I.hid (α:=Go.Ab.Fm) (zG (Go.Ab.Fm.mk m hd bs p (Option.none) fs pa sk co out) y4))))])) (.both (.need y0 (.fin (.ret (.tup [])) [(.abs (.fm (Go.Ab.Fm.mk m hd bs p (Option.none) (I.app (α:=Fld) fs ([(Fld.mk y3 y2)]:List Fld)) pa sk co out)))])) (.need y0 (.fin (.ret (.tup [])) [(.abs (.fm (Go.Ab.Fm.mk m hd bs p (Option.none) (I.app (α:=Fld) fs ([(Fld.mk y3 y2)]:List Fld)) pa sk co out)))]))))))) (by kernel_rfl) ?_
  simp only [zn]
  generalize zF s=y at *
  obtain⟨⟨a,b⟩,e⟩:=y
  subst hI
  simp only [nrmA,nrmB,nrlB,reduceCtorEq,HO.abs.injEq,Gh.fm.injEq]
  (repeat' (first|refine And.intro ?_ ?_|intro _))<;>first|omega|exact True.intro|exact False.elim ‹False›|skip
  all_goals first
    |omega
    |with_reducible assumption
    |exact⟨h9,hS,⟨hfl,hff⟩,hp0⟩
    |(unfold yc;simp only;omega)
    |(simp only [List.length_singleton];omega)
    |(subst hr;simp [*,zG];done)
    |(subst hr;rw [if_pos ‹s=[]›];done)
    |(subst hr;rw [if_neg ‹¬ s=[]›,if_pos (by omega)];done)
    |(subst hr;rw [if_neg ‹¬ s=[]›,if_neg (by omega),if_pos ‹¬ e=0›];done)
    |(subst hr;rw [if_neg ‹¬ s=[]›,if_neg (by omega),if_neg (fun h=>h ‹e=0›)];done)
theorem zhr (m:Str) (hd:Int) (bs:List Int) (p:Int) (ln:Ln) (fs:List Fld) (pa sk co:Int) (out:List Evt) (s:Str) (hneed:FmB ⟨m,hd,bs,p,some ln,fs,pa,sk,co,out⟩∧s.length≤1000000):Spc Tryz.prog 56 [.v (.one (.ptr 0 0)),.v (.one (.p (.str s)))] [.abs (.fm ⟨m,hd,bs,p,some ln,fs,pa,sk,co,out⟩)] (.ret (.tup [])) [.abs (.fm ((xH ⟨m,hd,bs,p,some ln,fs,pa,sk,co,out⟩ s)))]:=by
  obtain⟨⟨h9,hS,⟨hfl,hff⟩,hp0⟩,hs⟩:=hneed
  simp only at h9 hfl hff hp0
  generalize hr:xH ⟨m,hd,bs,p,some ln,fs,pa,sk,co,out⟩ s=r
  unfold xH at hr
  simp only at hr
  refine spcG zi mixed Tryz.func56 (by kernel_rfl) { cfgF with keep:=some [0,1,4,5]} [zcp,zco,wX,wW,U1,U0] (by kernel_rfl) ?_
  intro I X hI hX
  refine zh (let y3:=I.hid (α:=Str) (Fld.name (Prod.fst (zF s)));let y2:=I.hid (α:=Str) (Fld.value (Prod.fst (zF s)));let y0:=I.few (I.add (I.len (α:=Fld) fs) (I.len (α:=Fld) ([(Fld.mk y3 y2)]:List Fld))) 100000000;let y1:=I.hid (α:=(Prop)) (yc (Go.Ab.Fm.mk m hd bs p (Option.some (Go.Ab.Ln.mk (Go.Ab.Ln.b ln) (Go.Ab.Ln.cr ln) (Go.Ab.Ln.code ln))) fs pa sk co out));let y4:=I.hid (α:=Int) (Prod.snd (zF s));.br (I.seq s ([]:Str)) (.need (I.hid (α:=(Prop)) (FmB (Go.Ab.Fm.mk m hd bs p (Option.some ln) fs pa sk co out))) (.fin (.ret (.tup [])) [(.abs (.fm (I.hid (α:=Go.Ab.Fm) (yD (Go.Ab.Fm.mk m hd bs p (Option.some ln) fs pa sk co out)))))])) (.br (I.ieq (I.len (α:=Fld) fs) 16) (.need y1 (.fin (.ret (.tup [])) [(.abs (.fm (I.hid (α:=Go.Ab.Fm) (zG (Go.Ab.Fm.mk m hd bs p (Option.some (Go.Ab.Ln.mk (Go.Ab.Ln.b ln) (Go.Ab.Ln.cr ln) (Go.Ab.Ln.code ln))) fs pa sk co out) (8:Int)))))])) (.need (I.hid (α:=(Prop)) (LE.le (List.length s) 1000000)) (.br (I.bnot (I.ieq y4 0)) (.need y1 (.fin (.ret (.tup [])) [(.abs (.fm (I.hid (α:=Go.Ab.Fm) (zG (Go.Ab.Fm.mk m hd bs p (Option.some (Go.Ab.Ln.mk (Go.Ab.Ln.b ln) (Go.Ab.Ln.cr ln) (Go.Ab.Ln.code ln))) fs pa sk co out) y4))))])) (.both (.need y0 (.fin (.ret (.tup [])) [(.abs (.fm (Go.Ab.Fm.mk m hd bs p (Option.some (Go.Ab.Ln.mk (Go.Ab.Ln.b ln) (Go.Ab.Ln.cr ln) (Go.Ab.Ln.code ln))) (I.app (α:=Fld) fs ([(Fld.mk y3 y2)]:List Fld)) pa sk co out)))])) (.need y0 (.fin (.ret (.tup [])) [(.abs (.fm (Go.Ab.Fm.mk m hd bs p (Option.some (Go.Ab.Ln.mk (Go.Ab.Ln.b ln) (Go.Ab.Ln.cr ln) (Go.Ab.Ln.code ln))) (I.app (α:=Fld) fs ([(Fld.mk y3 y2)]:List Fld)) pa sk co out)))]))))))) (by kernel_rfl) ?_
  simp only [zn]
  generalize zF s=y at *
  obtain⟨⟨a,b⟩,e⟩:=y
  subst hI
  simp only [nrmA,nrmB,nrlB,reduceCtorEq,HO.abs.injEq,Gh.fm.injEq]
  (repeat' (first|refine And.intro ?_ ?_|intro _))<;>first|omega|exact True.intro|exact False.elim ‹False›|skip
  all_goals first
    |omega
    |with_reducible assumption
    |exact⟨h9,hS,⟨hfl,hff⟩,hp0⟩
    |(unfold yc;simp only;omega)
    |(simp only [List.length_singleton];omega)
    |(subst hr;simp [*,zG];done)
    |(subst hr;rw [if_pos ‹s=[]›];done)
    |(subst hr;rw [if_neg ‹¬ s=[]›,if_pos (by omega)];done)
    |(subst hr;rw [if_neg ‹¬ s=[]›,if_neg (by omega),if_pos ‹¬ e=0›];done)
    |(subst hr;rw [if_neg ‹¬ s=[]›,if_neg (by omega),if_neg (fun h=>h ‹e=0›)];done)
theorem zjy (f:Fm) (s:Str) (hneed:FmB f∧s.length≤1000000):Spc Tryz.prog 56 [.v (.one (.ptr 0 0)),.v (.one (.p (.str s)))] [.abs (.fm f)] (.ret (.tup [])) [.abs (.fm ((xH f s)))]:=by
  obtain⟨m,hd,bs,p,ln,fs,pa,sk,co,out⟩:=f
  cases ln with
  |none=>exact zhs m hd bs p fs pa sk co out s hneed
  |some ln=>exact zhr m hd bs p ln fs pa sk co out s hneed
def Yl (I:Alg) (args:List D) (hp:List HO):Option CT:=match args,hp with
  |[.v (.one (.ptr 0 0)),.v (.one (.p (.str s)))],[.abs (.fm f)]=>(fun(f:Fm) (s:Str)=>(some (.one ⟨I.hid (FmB f∧s.length≤1000000),(.ret (.tup [])),[.abs (.fm (I.hid ((xH f s))))]⟩):Option CT)) f s
  |_,_=>none
theorem zau:zy Tryz.prog 56 (Yl alg):=by
  intro args hp r h
  unfold Yl at h
  split at h
  · cases h;exact fun hn=>zjy _ _ hn
  · cases h
def zat:Know Tryz.prog:=⟨56,Yl,zau⟩
def zas:Know Tryz.prog:=⟨56,fun I=>zA I (Yl I),zf zau⟩
end Go.Proofs.YtknaogelmckimaaGreatDoor
namespace Go.Proofs.YtknaogelmckimaaGreatDoor
open Go Go.Sep Go.Ab
set_option maxRecDepth 100000
theorem Qq (s:Str):(zF s).1.name.length≤s.length∧(zF s).1.value.length≤s.length:=by
  have h:=zdm s 58
  have ht:=zb3 (cutB s 58).2.1 [32,9]
  unfold zF
  repeat' split
  all_goals simp only [List.length_nil]
  all_goals omega
end Go.Proofs.YtknaogelmckimaaGreatDoor
namespace Go.Proofs.YtknaogelmckimaaGreatDoor
open Go Go.Sep Go.Ab
set_option maxRecDepth 100000
structure FmI (f:Fm) (i:Nat):Prop where
  bs:f.bs=wG f.mark
  ml:f.mark.length≤1000
  h0:0≤f.held
  h1:f.held<f.mark.length
  s0:0≤f.skip∧f.skip≤2
  p0:0≤f.parts∧f.parts≤12
  fl:f.fields.length≤16
  ff: ∀ x ∈ f.fields,x.name.length≤i∧x.value.length≤i
  lb: ∀ l,f.ln=some l→l.b.length≤i
  p5:f.pos=5→f.ln≠none
  on:f.out.length≤4 * i
theorem UO {f:Fm} {i:Nat} (h:FmI f i) (c:UInt8):FmI (fmSk f c) i:=by
  have hl:=(Yp f.mark f.held.toNat c).resolve_left fun e=>by have h1:=h.h1;have h0:=h.h0;rw [e,List.length_nil] at h1;omega
  exact⟨h.bs,h.ml,Int.natCast_nonneg _,hl,h.s0,h.p0,h.fl,h.ff,h.lb,h.p5,h.on⟩
theorem zcZ {f:Fm} {i j:Nat} (h:FmI f i) (k:i≤j):FmI f j:=by
  obtain⟨a,b,c,d,e,f1,g,h1,h2,h3,h4⟩:=h
  exact⟨a,b,c,d,e,f1,g,fun x m=>by have:=h1 x m;omega,fun l e=>by have:=h2 l e;omega,h3,by omega⟩
theorem rZ {f:Fm} {i:Nat} (h:FmI f i) {p co sk pa:Int} {o:List Evt} (ho:o.length≤4 * i) (hp:p=5→f.ln≠none) (hs:0≤sk∧sk≤2) (hpa:0≤pa∧pa≤12):FmI { f with pos:=p,code:=co,out:=o,skip:=sk,parts:=pa} i:=
  ⟨h.bs,h.ml,h.h0,h.h1,hs,hpa,h.fl,h.ff,h.lb,hp,ho⟩
theorem sF {f:Fm} {i:Nat} (h:FmI f i) (ho:f.out.length+1≤4 * i) (c:Int):FmI (zG f c) i:=
  rZ h (by simp only [List.length_append,List.length_singleton];omega) (fun h=>absurd h (by decide)) h.s0 h.p0
theorem zed {f:Fm} {i:Nat} (h:FmI f i) (ho:f.out.length+1≤4 * i) (c:UInt8):FmI (zJ f c) i:=by
  unfold zJ
  repeat' split
  · exact rZ h h.on (fun h=>absurd h (by decide)) h.s0 h.p0
  · exact rZ h (by simp only [List.length_append,List.length_singleton];omega) (fun h=>absurd h (by decide)) h.s0 h.p0
  · exact rZ h h.on (fun h=>absurd h (by decide)) h.s0 h.p0
  · exact rZ h h.on (fun h=>absurd h (by decide)) h.s0 h.p0
  · exact sF h ho 5
theorem zfP {f:Fm} {i:Nat} (h:FmI f i) (ho:f.out.length+2≤4 * i) (c:UInt8):FmI (yg f c) i:=by
  have hs:=UO h c
  have h2:=h.s0
  unfold yg
  split
  · refine rZ (f:=fmSk f c) hs ?_ h.p5 ?_ h.p0
    · split
      · simp only [List.length_append,List.length_singleton];omega
      · exact h.on
    · rw [Int.min_def]
      split<;>omega
  · refine rZ (f:=fmSk f c) hs ?_ (fun h=>absurd h (by decide)) (by decide) h.p0
    repeat' split
    all_goals first|exact h.on|(simp only [List.length_append,List.length_singleton,List.length_cons,List.length_nil];omega)
theorem zfT {f:Fm} {i:Nat} (h:FmI f i) (ho:f.out.length+1≤4 * i):FmI (yD f) i:=by
  have h2:=h.p0
  unfold yD
  split
  · exact sF h ho _
  · split
    · exact sF h ho _
    · refine UO (UO ?_ _) _
      exact rZ h (by simp only [List.length_append,List.length_singleton];omega) (fun h=>absurd h (by decide)) (by decide) (by omega)
theorem zht {f:Fm} {i:Nat} (h:FmI f i) (ho:f.out.length+1≤4 * i) {s:Str} (hs:s.length≤i):FmI (xH f s) i:=by
  unfold xH
  split
  · exact zfT h ho
  · split
    · exact sF h ho _
    · split
      · exact sF h ho _
      · rename_i h16 _
        have hp:=Qq s
        refine⟨h.bs,h.ml,h.h0,h.h1,h.s0,h.p0,?_,fun x hx=> ?_,h.lb,h.p5,h.on⟩
        · have:=h.fl
          simp only [List.length_append,List.length_singleton];omega
        · rcases List.mem_append.1 hx with h5|h5
          · exact h.ff x h5
          · rw [List.mem_singleton.1 h5];omega
theorem zhz {f:Fm} {i:Nat} (h:FmI f i) (c:UInt8):FmI (fmF f c) (i+1):=by
  have hm:=zcZ h (show i≤i+1 by omega)
  have ho:f.out.length+2≤4 * (i+1):=by have:=h.on;omega
  unfold fmF
  split
  · exact zfP hm ho c
  · split
    · exact zed hm (by omega) c
    · split
      · split
        · exact sF hm (by omega) 2
        · exact⟨hm.bs,hm.ml,hm.h0,hm.h1,hm.s0,hm.p0,by simp,(fun x hx=>by cases hx),(fun l e=>by cases e;simp [ln0]),(fun _ e=>by cases e),hm.on⟩
      · split
        · have hb:=zkG (lnOf f) c
          have hl:=zff (lnOf f) c
          have hn:(lnOf f).b.length≤i:=by
            unfold lnOf
            cases e:f.ln with
            |none=>simp [ln0]
            |some l=>exact h.lb l e
          have hk:FmI { f with ln:=some (lnF (lnOf f) c).1} (i+1):=⟨hm.bs,hm.ml,hm.h0,hm.h1,hm.s0,hm.p0,hm.fl,hm.ff,(fun l e=>by cases e;omega),(fun _ e=>by cases e),hm.on⟩
          split
          · exact sF hk (by simp only;omega) _
          · split
            · exact zht hk (by simp only;omega) (by omega)
            · exact hk
        · exact hm
theorem zhb (k:Int) (hneed:False):Spc Tryz.prog 55 [.v (.one (.p (.val (.pointer none)))),.v (.one (.p (.int .u8 k)))] [] (.ret (.tup [(.one (.p (.str ([])))),(.one (.p (.bool false))),(.one (.p (.int .i64 0)))])) []:=hneed.elim
def qF (I:Alg) (args:List D) (hp:List HO):Option CT:=match args,hp with
  |[.v (.one (.p (.val (.pointer none)))),.v (.one (.p (.int .u8 k)))],[]=>(fun(k:Int)=>(some (.one ⟨I.hid (False),(.ret (.tup [(.one (.p (.str (I.hid ([]))))),(.one (.p (.bool false))),(.one (.p (.int .i64 0)))])),[]⟩):Option CT)) k
  |_,_=>none
theorem UA:zy Tryz.prog 55 (qF alg):=by
  intro args hp r h
  unfold qF at h
  split at h
  · cases h;exact fun hn=>zhb _ hn
  · cases h
def Uz:Know Tryz.prog:=⟨55,qF,UA⟩
def Uy:Know Tryz.prog:=⟨55,fun I=>zA I (qF I),zf UA⟩
def fmN (f:Fm):Prop:=∃ i:Nat,i≤1000000∧FmI f i
theorem zjC (m:Str) (hd:Int) (bs:List Int) (p:Int) (fs:List Fld) (pa sk co:Int) (out:List Evt) (k:Int) (hneed:fmN ⟨m,hd,bs,p,none,fs,pa,sk,co,out⟩∧0≤k∧k≤255):Spc Tryz.prog 31 [.v (.one (.ptr 0 0)),.v (.one (.p (.int .u8 k)))] [.abs (.fm ⟨m,hd,bs,p,none,fs,pa,sk,co,out⟩)] (.ret (.tup [])) [.abs (.fm ((fmF ⟨m,hd,bs,p,none,fs,pa,sk,co,out⟩ (UInt8.ofNat k.toNat))))]:=by
  obtain⟨⟨i,hi,hI0⟩,hk0,hk1⟩:=hneed
  obtain⟨g1,g2,g3,g4,g5,g6,g7,g8,g9,g10,g11⟩:=hI0
  simp only at g1 g2 g3 g4 g5 g6 g7 g8 g9 g10 g11
  have g2:=Nat.le_trans g2 (show 1000≤1000000 by decide)
  have hfd:FdOk fs:=⟨by omega,fun x hx=>by have:=g8 x hx;omega⟩
  have h10:=u8k hk0 hk1 10 (by decide)
  have h10:(UInt8.ofNat k.toNat=10)=(k=10):=h10
  generalize hr:fmF ⟨m,hd,bs,p,none,fs,pa,sk,co,out⟩ (UInt8.ofNat k.toNat)=r
  unfold fmF lnOf at hr
  simp only [h10] at hr
  have hll:=trivial
  refine spcG zi mixed Tryz.func31 (by kernel_rfl) { cfgF with keep:=some [0,1,4,5,6,10,11,17]} [zcI,zcH,QC,QB,Uz,Uy,wX,wW,VI,VH,UX,UW,zat,zas] (by kernel_rfl) ?_
  intro I X hI hX
  refine zh (let y0:=I.hid (α:=(Prop)) (And (yc (Go.Ab.Fm.mk m hd bs p (Option.none) fs pa sk co out)) (And (LE.le (0:Int) k) (LE.le k (255:Int))));let y1:=I.hid (α:=Go.Ab.Fm) (zJ (Go.Ab.Fm.mk m hd bs p (Option.none) fs pa sk co out) (UInt8.ofNat (Int.toNat k)));let y2:=I.hid (α:=(Prop)) (And (fm9 (Go.Ab.Fm.mk m hd bs p (Option.none) fs pa sk co out)) (And (FmS (Go.Ab.Fm.mk m hd bs p (Option.none) fs pa sk co out)) (And (LE.le (0:Int) k) (LE.le k (255:Int)))));let y3:=I.hid (α:=Go.Ab.Fm) (yg (Go.Ab.Fm.mk m hd bs p (Option.none) fs pa sk co out) (UInt8.ofNat (Int.toNat k)));let y4:=I.hid (α:=(Prop)) (yc (Go.Ab.Fm.mk m hd bs p (Option.none) fs pa sk co out));.br (I.ieq p 0) (.need y2 (.fin (.ret (.tup [])) [(.abs (.fm y3))])) (.br (I.ieq p 6) (.need y2 (.fin (.ret (.tup [])) [(.abs (.fm y3))])) (.br (I.ieq p 1) (.need y0 (.fin (.ret (.tup [])) [(.abs (.fm y1))])) (.br (I.ieq p 2) (.need y0 (.fin (.ret (.tup [])) [(.abs (.fm y1))])) (.br (I.ieq p 3) (.need y0 (.fin (.ret (.tup [])) [(.abs (.fm y1))])) (.br (I.ieq p 4) (.br (I.bnot (I.ieq k 10)) (.need y4 (.fin (.ret (.tup [])) [(.abs (.fm (I.hid (α:=Go.Ab.Fm) (zG (Go.Ab.Fm.mk m hd bs p (Option.none) fs pa sk co out) (2:Int)))))])) (.need (I.hid (α:=(Prop)) True) (.fin (.ret (.tup [])) [(.abs (.fm (Go.Ab.Fm.mk m hd bs (5:Int) (Option.some (Go.Ab.Ln.mk (I.hid (α:=Str) ([]:Str)) Bool.false (0:Int))) ([]:List Fld) pa sk co out)))]))) (.br (I.ieq p 5) (.need (I.hid (α:=(Prop)) False) (.br (I.bnot (I.ieq 0 0)) (.need y4 (.fin (.ret (.tup [])) [(.abs (.fm (I.hid (α:=Go.Ab.Fm) (zG (Go.Ab.Fm.mk m hd bs p (Option.none) fs pa sk co out) (0:Int)))))])) (.br Bool.false (.need (I.hid (α:=(Prop)) (And (FmB (Go.Ab.Fm.mk m hd bs p (Option.none) fs pa sk co out)) (LE.le (List.length (I.hid (α:=Str) ([]:Str))) 1000000))) (.fin (.ret (.tup [])) [(.abs (.fm (I.hid (α:=Go.Ab.Fm) (xH (Go.Ab.Fm.mk m hd bs p (Option.none) fs pa sk co out) (I.hid (α:=Str) ([]:Str))))))])) (.fin (.ret (.tup [])) [(.abs (.fm (Go.Ab.Fm.mk m hd bs p (Option.none) fs pa sk co out)))])))) (.fin (.ret (.tup [])) [(.abs (.fm (Go.Ab.Fm.mk m hd bs p (Option.none) fs pa sk co out)))])))))))) (by kernel_rfl) ?_
  simp only [zn]
  subst hI
  simp only [nrmA,nrmB,nrlB,reduceCtorEq,HO.abs.injEq,Gh.fm.injEq]
  (repeat' (first|refine And.intro ?_ ?_|intro _))<;>first|omega|exact True.intro|exact False.elim ‹False›|skip
  all_goals first
    |omega
    |with_reducible assumption
    |(refine⟨by simp only;omega,⟨g1,g2,g3,.inr g4,g5⟩,?_⟩;done)
    |exact⟨g1,g2,g3,.inr g4,g5⟩
    |exact⟨by simp only;omega,⟨g1,g2,g3,.inr g4,g5⟩,hfd,g6⟩
    |exact Nat.le_trans hll (by omega)
    |(unfold yc;simp only;omega)
    |(unfold fm9;simp only;omega)
    |(exact absurd rfl (g10 ‹_›))
    |(subst hr;simp [*,ln0];done)
theorem zjB (m:Str) (hd:Int) (bs:List Int) (p:Int) (ln:Ln) (fs:List Fld) (pa sk co:Int) (out:List Evt) (k:Int) (hneed:fmN ⟨m,hd,bs,p,some ln,fs,pa,sk,co,out⟩∧0≤k∧k≤255):Spc Tryz.prog 31 [.v (.one (.ptr 0 0)),.v (.one (.p (.int .u8 k)))] [.abs (.fm ⟨m,hd,bs,p,some ln,fs,pa,sk,co,out⟩)] (.ret (.tup [])) [.abs (.fm ((fmF ⟨m,hd,bs,p,some ln,fs,pa,sk,co,out⟩ (UInt8.ofNat k.toNat))))]:=by
  obtain⟨⟨i,hi,hI0⟩,hk0,hk1⟩:=hneed
  obtain⟨g1,g2,g3,g4,g5,g6,g7,g8,g9,g10,g11⟩:=hI0
  simp only at g1 g2 g3 g4 g5 g6 g7 g8 g9 g10 g11
  have g2:=Nat.le_trans g2 (show 1000≤1000000 by decide)
  have hfd:FdOk fs:=⟨by omega,fun x hx=>by have:=g8 x hx;omega⟩
  have h10:=u8k hk0 hk1 10 (by decide)
  have h10:(UInt8.ofNat k.toNat=10)=(k=10):=h10
  generalize hr:fmF ⟨m,hd,bs,p,some ln,fs,pa,sk,co,out⟩ (UInt8.ofNat k.toNat)=r
  unfold fmF lnOf at hr
  simp only [h10] at hr
  have hll:=zff ln (UInt8.ofNat k.toNat)
  have hlb:=g9 ln rfl
  refine spcG zi mixed Tryz.func31 (by kernel_rfl) { cfgF with keep:=some [0,1,4,5,6,10,11,17]} [zcI,zcH,QC,QB,Uz,Uy,wX,wW,VI,VH,UX,UW,zat,zas] (by kernel_rfl) ?_
  intro I X hI hX
  refine zh (let y0:=I.hid (α:=Int) (Go.Ab.Ln.code (Prod.fst (lnF (Go.Ab.Ln.mk (Go.Ab.Ln.b ln) (Go.Ab.Ln.cr ln) (Go.Ab.Ln.code ln)) (UInt8.ofNat (Int.toNat k)))));let y1:=I.hid (α:=Bool) (Go.Ab.Ln.cr (Prod.fst (lnF (Go.Ab.Ln.mk (Go.Ab.Ln.b ln) (Go.Ab.Ln.cr ln) (Go.Ab.Ln.code ln)) (UInt8.ofNat (Int.toNat k)))));let y2:=I.hid (α:=Str) (Go.Ab.Ln.b (Prod.fst (lnF (Go.Ab.Ln.mk (Go.Ab.Ln.b ln) (Go.Ab.Ln.cr ln) (Go.Ab.Ln.code ln)) (UInt8.ofNat (Int.toNat k)))));let y3:=I.hid (α:=(Prop)) (And (yc (Go.Ab.Fm.mk m hd bs p (Option.some (Go.Ab.Ln.mk (Go.Ab.Ln.b ln) (Go.Ab.Ln.cr ln) (Go.Ab.Ln.code ln))) fs pa sk co out)) (And (LE.le (0:Int) k) (LE.le k (255:Int))));let y4:=I.hid (α:=Go.Ab.Fm) (zJ (Go.Ab.Fm.mk m hd bs p (Option.some (Go.Ab.Ln.mk (Go.Ab.Ln.b ln) (Go.Ab.Ln.cr ln) (Go.Ab.Ln.code ln))) fs pa sk co out) (UInt8.ofNat (Int.toNat k)));let y5:=I.hid (α:=(Prop)) (And (fm9 (Go.Ab.Fm.mk m hd bs p (Option.some (Go.Ab.Ln.mk (Go.Ab.Ln.b ln) (Go.Ab.Ln.cr ln) (Go.Ab.Ln.code ln))) fs pa sk co out)) (And (FmS (Go.Ab.Fm.mk m hd bs p (Option.some (Go.Ab.Ln.mk (Go.Ab.Ln.b ln) (Go.Ab.Ln.cr ln) (Go.Ab.Ln.code ln))) fs pa sk co out)) (And (LE.le (0:Int) k) (LE.le k (255:Int)))));let y6:=I.hid (α:=Go.Ab.Fm) (yg (Go.Ab.Fm.mk m hd bs p (Option.some (Go.Ab.Ln.mk (Go.Ab.Ln.b ln) (Go.Ab.Ln.cr ln) (Go.Ab.Ln.code ln))) fs pa sk co out) (UInt8.ofNat (Int.toNat k)));let y7:=I.hid (α:=Int) (Prod.snd (Prod.snd (Prod.snd (lnF (Go.Ab.Ln.mk (Go.Ab.Ln.b ln) (Go.Ab.Ln.cr ln) (Go.Ab.Ln.code ln)) (UInt8.ofNat (Int.toNat k))))));let y8:=I.hid (α:=Str) (Prod.fst (Prod.snd (lnF (Go.Ab.Ln.mk (Go.Ab.Ln.b ln) (Go.Ab.Ln.cr ln) (Go.Ab.Ln.code ln)) (UInt8.ofNat (Int.toNat k)))));.br (I.ieq p 0) (.need y5 (.fin (.ret (.tup [])) [(.abs (.fm y6))])) (.br (I.ieq p 6) (.need y5 (.fin (.ret (.tup [])) [(.abs (.fm y6))])) (.br (I.ieq p 1) (.need y3 (.fin (.ret (.tup [])) [(.abs (.fm y4))])) (.br (I.ieq p 2) (.need y3 (.fin (.ret (.tup [])) [(.abs (.fm y4))])) (.br (I.ieq p 3) (.need y3 (.fin (.ret (.tup [])) [(.abs (.fm y4))])) (.br (I.ieq p 4) (.br (I.bnot (I.ieq k 10)) (.need (I.hid (α:=(Prop)) (yc (Go.Ab.Fm.mk m hd bs p (Option.some (Go.Ab.Ln.mk (Go.Ab.Ln.b ln) (Go.Ab.Ln.cr ln) (Go.Ab.Ln.code ln))) fs pa sk co out))) (.fin (.ret (.tup [])) [(.abs (.fm (I.hid (α:=Go.Ab.Fm) (zG (Go.Ab.Fm.mk m hd bs p (Option.some (Go.Ab.Ln.mk (Go.Ab.Ln.b ln) (Go.Ab.Ln.cr ln) (Go.Ab.Ln.code ln))) fs pa sk co out) (2:Int)))))])) (.need (I.hid (α:=(Prop)) True) (.fin (.ret (.tup [])) [(.abs (.fm (Go.Ab.Fm.mk m hd bs (5:Int) (Option.some (Go.Ab.Ln.mk (I.hid (α:=Str) ([]:Str)) Bool.false (0:Int))) ([]:List Fld) pa sk co out)))]))) (.br (I.ieq p 5) (.need (I.hid (α:=(Prop)) (And (LE.le (0:Int) k) (And (LE.le k (255:Int)) (LE.le (List.length (Go.Ab.Ln.b ln)) 1000000)))) (.br (I.bnot (I.ieq y7 0)) (.need (I.hid (α:=(Prop)) (yc (Go.Ab.Fm.mk m hd bs p (Option.some (Go.Ab.Ln.mk y2 y1 y0)) fs pa sk co out))) (.fin (.ret (.tup [])) [(.abs (.fm (I.hid (α:=Go.Ab.Fm) (zG (Go.Ab.Fm.mk m hd bs p (Option.some (Go.Ab.Ln.mk y2 y1 y0)) fs pa sk co out) y7))))])) (.br (I.hid (α:=Bool) (Prod.fst (Prod.snd (Prod.snd (lnF (Go.Ab.Ln.mk (Go.Ab.Ln.b ln) (Go.Ab.Ln.cr ln) (Go.Ab.Ln.code ln)) (UInt8.ofNat (Int.toNat k))))))) (.need (I.hid (α:=(Prop)) (And (FmB (Go.Ab.Fm.mk m hd bs p (Option.some (Go.Ab.Ln.mk y2 y1 y0)) fs pa sk co out)) (LE.le (List.length y8) 1000000))) (.fin (.ret (.tup [])) [(.abs (.fm (I.hid (α:=Go.Ab.Fm) (xH (Go.Ab.Fm.mk m hd bs p (Option.some (Go.Ab.Ln.mk y2 y1 y0)) fs pa sk co out) y8))))])) (.fin (.ret (.tup [])) [(.abs (.fm (Go.Ab.Fm.mk m hd bs p (Option.some (Go.Ab.Ln.mk y2 y1 y0)) fs pa sk co out)))])))) (.fin (.ret (.tup [])) [(.abs (.fm (Go.Ab.Fm.mk m hd bs p (Option.some (Go.Ab.Ln.mk (Go.Ab.Ln.b ln) (Go.Ab.Ln.cr ln) (Go.Ab.Ln.code ln))) fs pa sk co out)))])))))))) (by kernel_rfl) ?_
  simp only [zn]
  subst hI
  simp only [nrmA,nrmB,nrlB,reduceCtorEq,HO.abs.injEq,Gh.fm.injEq]
  (repeat' (first|refine And.intro ?_ ?_|intro _))<;>first|omega|exact True.intro|exact False.elim ‹False›|skip
  all_goals first
    |omega
    |with_reducible assumption
    |(refine⟨by simp only;omega,⟨g1,g2,g3,.inr g4,g5⟩,?_⟩;done)
    |exact⟨g1,g2,g3,.inr g4,g5⟩
    |exact⟨by simp only;omega,⟨g1,g2,g3,.inr g4,g5⟩,hfd,g6⟩
    |exact Nat.le_trans hll (by omega)
    |(unfold yc;simp only;omega)
    |(unfold fm9;simp only;omega)
    |(exact absurd rfl (g10 ‹_›))
    |(subst hr;simp [*,ln0];done)
theorem zkR (f:Fm) (k:Int) (hneed:fmN f∧0≤k∧k≤255):Spc Tryz.prog 31 [.v (.one (.ptr 0 0)),.v (.one (.p (.int .u8 k)))] [.abs (.fm f)] (.ret (.tup [])) [.abs (.fm ((fmF f (UInt8.ofNat k.toNat))))]:=by
  obtain⟨m,hd,bs,p,ln,fs,pa,sk,co,out⟩:=f
  cases ln with
  |none=>exact zjC m hd bs p fs pa sk co out k hneed
  |some ln=>exact zjB m hd bs p ln fs pa sk co out k hneed
def Wu (I:Alg) (args:List D) (hp:List HO):Option CT:=match args,hp with
  |[.v (.one (.ptr 0 0)),.v (.one (.p (.int .u8 k)))],[.abs (.fm f)]=>(fun(f:Fm) (k:Int)=>(some (.one ⟨I.hid (fmN f∧0≤k∧k≤255),(.ret (.tup [])),[.abs (.fm (I.hid ((fmF f (UInt8.ofNat k.toNat)))))]⟩):Option CT)) f k
  |_,_=>none
theorem zc1:zy Tryz.prog 31 (Wu alg):=by
  intro args hp r h
  unfold Wu at h
  split at h
  · cases h;exact fun hn=>zkR _ _ hn
  · cases h
def Ws:Know Tryz.prog:=⟨31,Wu,zc1⟩
def Wq:Know Tryz.prog:=⟨31,fun I=>zA I (Wu I),zf zc1⟩
end Go.Proofs.YtknaogelmckimaaGreatDoor
namespace Go.Proofs.YtknaogelmckimaaGreatDoor
open Go Go.Sep Go.Ab
set_option maxRecDepth 100000
def zU (l:List Evt):Nat:=(l.map fun e=>e.bytes.length).sum
theorem wC (a b:List Evt):zU (a++b)=zU a+zU b:=by simp [zU]
theorem uZ (e:Evt):zU [e]=e.bytes.length:=by simp [zU]
theorem zfh (o:List Evt) (e:Evt):zU (Zm o e)≤zU o+e.bytes.length:=by
  rcases List.eq_nil_or_concat o with rfl|⟨z,x,rfl⟩
  · rw [rU,uZ];omega
  · rw [List.concat_eq_append,yY]
    split
    · rw [wC,wC,uZ,uZ];simp only [evB,List.length_append];omega
    · rw [wC _ [e],uZ e];exact Nat.le_refl _
theorem vG (l:List Evt) (e:Evt):zN (l++[e])=Zm (zN l) e:=by simp [zN,List.foldl_append]
theorem QM (l:List Evt):zU (zN l)≤zU l:=by
  suffices ∀ l o:List Evt,zU (l.foldl Zm o)≤zU o+zU l by have:=this l [];simpa [zN,zU] using this
  intro l
  induction l with
  |nil=>intro o;simp [zU]
  | cons e r ih=>
    intro o
    have h1:=ih (Zm o e)
    have h2:=zfh o e
    have h3:zU (e::r)=e.bytes.length+zU r:=by simp [zU]
    rw [List.foldl_cons];omega
theorem zfi (o:List Evt) (e:Evt):(Zm o e).length≤o.length+1:=by
  rcases List.eq_nil_or_concat o with rfl|⟨z,x,rfl⟩
  · simp [rU]
  · rw [List.concat_eq_append,yY]
    split<;>simp
theorem zeh (l:List Evt) (i:Nat):zU (l.take i)≤zU l:=by
  have:=wC (l.take i) (l.drop i)
  rw [List.take_append_drop] at this
  omega
theorem VP {l:List Evt} {e:Evt} (h:e ∈ l):e.bytes.length≤zU l:=by
  obtain⟨a,b,rfl⟩:=List.append_of_mem h
  have:=wC a (e::b)
  have h3:zU (e::b)=e.bytes.length+zU b:=by simp [zU]
  omega
theorem QN (l:List Evt):(zN l).length≤l.length:=by
  suffices ∀ l o:List Evt,(l.foldl Zm o).length≤o.length+l.length by have:=this l [];simpa [zN] using this
  intro l
  induction l with
  |nil=>intro o;simp
  | cons e r ih=>
    intro o
    have h1:=ih (Zm o e)
    have h2:=zfi o e
    rw [List.foldl_cons,List.length_cons];omega
theorem ziH (l:List Evt) (hneed:zU l≤1000000∧l.length≤10000000):Spc Tryz.prog 32 [.v (.one (.row 0))] [.row .evt 53 l] (.ret (.v (.one (.row 1)))) [.row .evt 53 l,.row .evt 53 ((zN l))]:=by
  obtain⟨hn1,hn2⟩:=hneed
  refine spcG zi mixed Tryz.func32 (by kernel_rfl) { nr:=[3],keep:=some [0,2,3,5,6,7,8,9,10]} [] (by kernel_rfl) ?_
  intro I X hI hX
  refine zh (.code 0 [1,1,0,1,0] ⟨[(10,(.v (.one (.p (.int .i64 0))))),(9,(.v (.one (.p (.int .i64 (I.len (α:=Go.Ab.Evt) l)))))),(8,(.v (.one (.row 0)))),(3,(.v (.one (.row 1)))),(2,(.v (.one .nilS))),(0,(.v (.one (.row 0))))],[(.row .evt 53 l),(.row .evt 53 ([]:List Go.Ab.Evt))],52,none⟩) (by kernel_rfl) ?_
  simp only [zn]
  refine zu hI zi mixed [] hX [0,3,8,9,10] (fun(g:Nat × List Evt)=>match g with|(i,o)=>i≤l.length∧o=zN (l.take i)) (fun(g:Nat × List Evt)=>match g with|(i,o)=>⟨[(0,.v (.one (.row 0))),(3,.v (.one (.row 1))),(8,.v (.one (.row 0))),(9,.v (.one (.p (.int .i64 ((I.len (α:=Evt) l)))))),(10,.v (.one (.p (.int .i64 i))))],[.row .evt 53 l,.row .evt 53 o],52,none⟩) (fun(g:Nat × List Evt)=>match g with|(i,o)=>l.length - i) (0,[]) (by kernel_rfl) (by kernel_rfl) ?_ ?_
  · exact⟨Nat.zero_le _,rfl⟩
  rintro⟨i,o⟩ ⟨h1,h2⟩ A hA
  simp only at hA h1 h2
  refine zh (let y0:=I.get (α:=Go.Ab.Evt) l (Go.Ab.Evt.mk (0:Int) (Hd.mk ([]:Str) ([]:Str) (0:Int) ([]:List Fld) (0:Int)) ([]:Str) (Go.Ab.Prt.mk ([]:Str) ([]:Str) ([]:Str) ([]:Str)) (0:Int)) (Nat.cast i);let y1:=I.few (I.add (I.len (α:=Go.Ab.Evt) o) (I.len (α:=Go.Ab.Evt) ([(Go.Ab.Evt.mk (Go.Ab.Evt.kind y0) (Hd.mk (Hd.method (Go.Ab.Evt.head y0)) (Hd.target (Go.Ab.Evt.head y0)) (Hd.minor (Go.Ab.Evt.head y0)) (Hd.fields (Go.Ab.Evt.head y0)) (Hd.length (Go.Ab.Evt.head y0))) (Go.Ab.Evt.bytes y0) (Go.Ab.Prt.mk (Go.Ab.Prt.name (Go.Ab.Evt.part y0)) (Go.Ab.Prt.file (Go.Ab.Evt.part y0)) (Go.Ab.Prt.type (Go.Ab.Evt.part y0)) (Go.Ab.Prt.bytes (Go.Ab.Evt.part y0))) (Go.Ab.Evt.code y0))]:List Go.Ab.Evt))) 100000000;let y2:HO:=.row .evt 53 (I.app (α:=Go.Ab.Evt) o ([(Go.Ab.Evt.mk (Go.Ab.Evt.kind y0) (Hd.mk (Hd.method (Go.Ab.Evt.head y0)) (Hd.target (Go.Ab.Evt.head y0)) (Hd.minor (Go.Ab.Evt.head y0)) (Hd.fields (Go.Ab.Evt.head y0)) (Hd.length (Go.Ab.Evt.head y0))) (Go.Ab.Evt.bytes y0) (Go.Ab.Prt.mk (Go.Ab.Prt.name (Go.Ab.Evt.part y0)) (Go.Ab.Prt.file (Go.Ab.Evt.part y0)) (Go.Ab.Prt.type (Go.Ab.Evt.part y0)) (Go.Ab.Prt.bytes (Go.Ab.Evt.part y0))) (Go.Ab.Evt.code y0))]:List Go.Ab.Evt));let y6:=I.sub (I.len (α:=Go.Ab.Evt) o) 1;let y3:=I.get (α:=Go.Ab.Evt) o (Go.Ab.Evt.mk (0:Int) (Hd.mk ([]:Str) ([]:Str) (0:Int) ([]:List Fld) (0:Int)) ([]:Str) (Go.Ab.Prt.mk ([]:Str) ([]:Str) ([]:Str) ([]:Str)) (0:Int)) y6;let y4:=I.inb y6 (I.len (α:=Go.Ab.Evt) o);let y5:=I.inr Go.IntKind.i64 (I.add (Nat.cast i) 1);let y7:=I.inb (Nat.cast i) (I.len (α:=Go.Ab.Evt) l);let y8:=I.len (α:=UInt8) (Go.Ab.Evt.bytes y3);.br (I.ilt (Nat.cast i) (I.len (α:=Go.Ab.Evt) l)) (.need y7 (.need y7 (.need (I.inr Go.IntKind.i64 y6) (.br (I.ieq (Go.Ab.Evt.kind y0) 2) (.br (I.ile 0 y6) (.need y4 (.need y4 (.br (I.ieq (Go.Ab.Evt.kind y3) 2) (.need y4 (.need y4 (.need (I.few y8 140737488355328) (.need (I.few (I.add y8 (I.len (α:=UInt8) (Go.Ab.Evt.bytes y0))) 140737488355328) (.need y4 (.need y4 (.need y5 (.need (A ⟨[(0,(.v (.one (.row 0)))),(3,(.v (.one (.row 1)))),(8,(.v (.one (.row 0)))),(9,(.v (.one (.p (.int .i64 (I.len (α:=Go.Ab.Evt) l)))))),(10,(.v (.one (.p (.int .i64 (I.add (Nat.cast i) 1))))))],[(.row .evt 53 l),(.row .evt 53 (I.set (α:=Go.Ab.Evt) o y6 (Go.Ab.Evt.mk (2:Int) (Hd.mk ([]:Str) ([]:Str) (0:Int) ([]:List Fld) (0:Int)) (I.app (α:=UInt8) (Go.Ab.Evt.bytes y3) (Go.Ab.Evt.bytes y0)) (Go.Ab.Prt.mk ([]:Str) ([]:Str) ([]:Str) ([]:Str)) (0:Int))))],52,none⟩) .qed)))))))) (.need y1 (.need y5 (.need (A ⟨[(0,(.v (.one (.row 0)))),(3,(.v (.one (.row 1)))),(8,(.v (.one (.row 0)))),(9,(.v (.one (.p (.int .i64 (I.len (α:=Go.Ab.Evt) l)))))),(10,(.v (.one (.p (.int .i64 (I.add (Nat.cast i) 1))))))],[(.row .evt 53 l),y2],52,none⟩) .qed)))))) (.need y1 (.need y5 (.need (A ⟨[(0,(.v (.one (.row 0)))),(3,(.v (.one (.row 1)))),(8,(.v (.one (.row 0)))),(9,(.v (.one (.p (.int .i64 (I.len (α:=Go.Ab.Evt) l)))))),(10,(.v (.one (.p (.int .i64 (I.add (Nat.cast i) 1))))))],[(.row .evt 53 l),y2],52,none⟩) .qed)))) (.need y1 (.need y5 (.need (A ⟨[(0,(.v (.one (.row 0)))),(3,(.v (.one (.row 1)))),(8,(.v (.one (.row 0)))),(9,(.v (.one (.p (.int .i64 (I.len (α:=Go.Ab.Evt) l)))))),(10,(.v (.one (.p (.int .i64 (I.add (Nat.cast i) 1))))))],[(.row .evt 53 l),y2],52,none⟩) .qed))))))) (.fin (.ret (.v (.one (.row 1)))) [(.row .evt 53 l),(.row .evt 53 o)])) (by kernel_rfl) ?_
  simp only [zn]
  subst hI
  simp only [nrmA,nrmB,nrlB,reduceCtorEq]
  have hl1:=QN (l.take i)
  have hl2:(l.take i).length≤i:=by rw [List.length_take];omega
  have hl3:=QM (l.take i)
  have hl4: ∀ x ∈ zN (l.take i),x.bytes.length≤1000000:=fun x h=>by
    have a:=VP h
    have b:=zeh l i
    omega
  have hw: ¬ i<l.length→o=zN l:=fun h=>by rw [h2,List.take_of_length_le (by omega)]
  have hy:i<l.length→zN (l.take (i+1))=Zm o (l.getD i ⟨0,⟨[],[],0,[],0⟩,[],⟨[],[],[],[]⟩,0⟩):=fun h=>by rw [List.take_succ_eq_append_getElem h,vG,h2];simp [h]
  have hl5:i<l.length→(l.getD i ⟨0,⟨[],[],0,[],0⟩,[],⟨[],[],[],[]⟩,0⟩).bytes.length≤1000000:=fun h=>by
    have:l.getD i ⟨0,⟨[],[],0,[],0⟩,[],⟨[],[],[],[]⟩,0⟩ ∈ l:=by simp [h]
    have:=VP this
    omega
  rw [← h2] at hl1 hl4
  refine⟨fun c=> ?_,fun c=>hw (by omega)⟩
  have hlt:i<l.length:=by omega
  have hy:=hy hlt
  have hl5:=hl5 hlt
  generalize l.getD i ⟨0,⟨[],[],0,[],0⟩,[],⟨[],[],[],[]⟩,0⟩=e at *
  have hgo: ∀ r:List Evt,r=Zm o e→(fun p:Nat × List Evt=>p.1≤l.length∧p.2=zN (l.take p.1)) (i+1,r):=fun r h=>⟨by simp only;omega,by simp only;rw [hy,h]⟩
  rcases List.eq_nil_or_concat o with he|⟨z,x,he⟩
  · subst he
    rw [rU] at hgo
    simp only [List.length_cons,List.length_nil]
    (repeat' (first|refine And.intro ?_ ?_|intro _))<;>first|omega|exact True.intro|exact False.elim ‹False›|skip
    all_goals first
      |omega
      |exact hA (i+1,_) (hgo _ rfl) (by simp only;omega)
  · rw [List.concat_eq_append] at he
    subst he
    have hx:=hl4 x (List.mem_append_right _ (List.mem_singleton.2 rfl))
    have hz:(((z++[x]).length:Int) - 1).toNat=z.length:=by rw [List.length_append,List.length_singleton];omega
    have hg: ∀ d,(z++[x]).getD z.length d=x:=fun d=>by simp
    have hs: ∀ d,(z++[x]).set z.length d=z++[d]:=fun d=>by simp
    rw [yY] at hgo
    rw [List.length_append,List.length_singleton] at hl1
    simp only [hz,hg,hs]
    simp only [List.length_append,List.length_cons,List.length_nil]
    clear hz hg hs
    (repeat' (first|refine And.intro ?_ ?_|intro _))<;>first|omega|exact True.intro|exact False.elim ‹False›|skip
    all_goals first
      |omega
      |(rw [if_pos ⟨‹e.kind=2›,‹x.kind=2›⟩] at hgo;exact hA (i+1,_) (hgo _ rfl) (by simp only;omega))
      |(rw [if_neg (fun h=>‹¬ e.kind=2› h.1)] at hgo;exact hA (i+1,_) (hgo _ rfl) (by simp only;omega))
      |(rw [if_neg (fun h=>‹¬ x.kind=2› h.2)] at hgo;exact hA (i+1,_) (hgo _ rfl) (by simp only;omega))
def ZJ (I:Alg) (args:List D) (hp:List HO):Option CT:=match args,hp with
  |[.v (.one (.row 0))],[.row .evt 53 l]=>(fun(l:List Evt)=>(some (.one ⟨I.hid (zU l≤1000000∧l.length≤10000000),(.ret (.v (.one (.row 1)))),[.row .evt 53 l,.row .evt 53 (I.hid ((zN l)))]⟩):Option CT)) l
  |_,_=>none
theorem Qh:zy Tryz.prog 32 (ZJ alg):=by
  intro args hp r h
  unfold ZJ at h
  split at h
  · cases h;exact fun hn=>ziH _ hn
  · cases h
def ZI:Know Tryz.prog:=⟨32,ZJ,Qh⟩
def ZH:Know Tryz.prog:=⟨32,fun I=>zA I (ZJ I),zf Qh⟩
end Go.Proofs.YtknaogelmckimaaGreatDoor
namespace Go.Proofs.YtknaogelmckimaaGreatDoor
open Go Go.Sep Go.Ab
set_option maxRecDepth 100000
theorem zaE {m:Str} {n:Nat} (h:m=[]∨n<m.length) (c:UInt8):(yh m n c).1.length+(yh m n c).2.1≤n+1:=by
  unfold yh
  by_cases h0:m=[]
  · rw [if_pos h0];simp only [List.length_singleton];omega
  · rw [if_neg h0]
    have hn:n<m.length:=h.resolve_left h0
    have hf:=(P.SE m c P.take_len n n (Nat.le_refl _) (by omega)).le
    unfold P.feed
    simp only
    repeat' split
    all_goals simp only [List.length_append,List.length_singleton,List.length_take]
    all_goals omega
theorem zih (f:Fm) {i:Nat} (h:FmI f i) (c:UInt8):(fmSk f c).held.toNat≤f.held.toNat+1:=by
  have:=zaE (m:=f.mark) (n:=f.held.toNat) (.inr (by have:=h.h0;have:=h.h1;omega)) c
  show(((yh f.mark f.held.toNat c).2.1:Nat):Int).toNat≤_
  rw [Int.toNat_natCast];omega
theorem vV (o:List Evt) (e:Evt) (h:e.bytes=[]):zU (o++[e])=zU o:=by
  rw [wC,uZ,h];rfl
theorem zbw {f:Fm} {i:Nat} (h:FmI f i):zU (yD f).out+(yD f).held.toNat≤zU f.out+f.held.toNat+2:=by
  have h2:=h.p0
  unfold yD
  split
  · show zU (f.out++[evF _])+_≤_
    rw [vV _ _ rfl];simp only [zG];omega
  · split
    · show zU (f.out++[evF _])+_≤_
      rw [vV _ _ rfl];simp only [zG];omega
    · have hI:FmI { f with parts:=f.parts+1,pos:=6,out:=[],skip:=2} i:=⟨h.bs,h.ml,h.h0,h.h1,(show(0:Int)≤2∧(2:Int)≤2 by decide),by simp only;omega,h.fl,h.ff,h.lb,(fun e=>absurd (show(6:Int)=5 from e) (by decide)),Nat.zero_le _⟩
      have a:=zih _ hI 13
      have b:=zih _ (UO hI 13) 10
      show zU (f.out++[evP _])+(fmSk (fmSk { f with parts:=f.parts+1,pos:=6,out:=[],skip:=2} 13) 10).held.toNat≤_
      rw [vV _ _ rfl]
      simp only at a
      omega
theorem zd9 {f:Fm} {i:Nat} (h:FmI f i) (s:Str):zU (xH f s).out+(xH f s).held.toNat≤zU f.out+f.held.toNat+2:=by
  unfold xH
  split
  · exact zbw h
  · split
    · show zU (f.out++[evF _])+_≤_
      rw [vV _ _ rfl];simp only [zG];omega
    · split
      · show zU (f.out++[evF _])+_≤_
        rw [vV _ _ rfl];simp only [zG];omega
      · simp only;omega
theorem zbr {f:Fm} {i:Nat} (h:FmI f i) (c:UInt8):zU (fmF f c).out+(fmF f c).held.toNat≤zU f.out+f.held.toNat+2:=by
  have hfail: ∀ (f:Fm) (c:Int),zU (zG f c).out=zU f.out∧(zG f c).held=f.held:=fun f c=>⟨vV _ _ rfl,rfl⟩
  unfold fmF
  split
  · have hp:=zaE (m:=f.mark) (n:=f.held.toNat) (.inr (by have:=h.h0;have:=h.h1;omega)) c
    have hd:(yI f c).length≤(yh f.mark f.held.toNat c).1.length:=by unfold yI;rw [List.length_drop];omega
    have e0:(fmSk f c).held.toNat=(yh f.mark f.held.toNat c).2.1:=Int.toNat_natCast _
    unfold yg
    split
    · show zU (if f.pos=6∧yI f c≠[] then f.out++[evB (yI f c)] else f.out)+(fmSk f c).held.toNat≤_
      rw [e0]
      split
      · rw [wC,uZ];simp only [evB];omega
      · omega
    · show zU (if f.pos=6 then(if yI f c≠[] then f.out++[evB (yI f c),evO] else f.out++[evO]) else f.out)+(fmSk f c).held.toNat≤_
      rw [e0]
      have e1:zU [evB (yI f c),evO]=(yI f c).length:=by simp [zU,evB,evO]
      have e2:zU [evO]=0:=rfl
      split
      · split
        · rw [wC,e1];omega
        · rw [wC,e2];omega
      · omega
  · split
    · unfold zJ
      repeat' split
      all_goals first
        |(simp only;omega)
        |(rw [(hfail _ _).1,(hfail _ _).2];omega)
        |(show zU (f.out++[evE])+_≤_;rw [vV _ _ rfl];simp only;omega)
    · split
      · split
        · rw [(hfail _ _).1,(hfail _ _).2];omega
        · simp only;omega
      · split
        · split
          · rw [(hfail _ _).1,(hfail _ _).2];simp only;omega
          · split
            · have hn:(lnOf f).b.length≤i:=by
                unfold lnOf
                cases e:f.ln with
                |none=>simp [ln0]
                |some l=>exact h.lb l e
              have hb:=zkG (lnOf f) c
              have hm:=zcZ h (show i≤i+1 by omega)
              exact zd9 (i:=i+1) (f:= { f with ln:=some (lnF (lnOf f) c).1}) ⟨hm.bs,hm.ml,hm.h0,hm.h1,hm.s0,hm.p0,hm.fl,hm.ff,(fun l e=>by cases e;omega),(fun _ e=>by cases e),hm.on⟩ _
            · simp only;omega
        · omega
theorem zfA (f:Fm) (b:Str) {i:Nat} (h:i<b.length):xC f (b.take (i+1))=fmF (xC f (b.take i)) (b.getD i 0):=by
  rw [show b.getD i 0=b[i] by simp [h],List.take_succ_eq_append_getElem h]
  unfold xC
  rw [List.foldl_append]
  rfl
theorem zfC: ∀ (b:Str) (f:Fm) (i:Nat),FmI f i→FmI (xC f b) (i+b.length)
  |[],f,i,h=>h
  | c::r,f,i,h=>by
    have:=zfC r (fmF f c) (i+1) (zhz h c)
    rw [List.length_cons,show i+(r.length+1)=i+1+r.length by omega]
    exact this
def fmN0 (f:Fm) (b:Str):Prop:=∃ n,FmI { f with out:=[]} n∧n+b.length≤400000
theorem zhv (m:Str) (hd:Int) (bs:List Int) (p:Int) (fs:List Fld) (pa sk co:Int) (out:List Evt) (b:Str) (hneed:fmN0 ⟨m,hd,bs,p,none,fs,pa,sk,co,out⟩ b):Spc Tryz.prog 13 [.v (.one (.ptr 0 0)),.v (.one (.p (.list .byte b)))] [.abs (.fm ⟨m,hd,bs,p,none,fs,pa,sk,co,out⟩)] (.ret (.v (.one (.row 1)))) [.abs (.fm ((zW ⟨m,hd,bs,p,none,fs,pa,sk,co,out⟩ b))),.row .evt 53 ((zN (zW ⟨m,hd,bs,p,none,fs,pa,sk,co,out⟩ b).out))]:=by
  obtain⟨n,hI0,hnb⟩:=hneed
  have hml:=hI0.ml
  have hh1:=hI0.h1
  have hh0:=hI0.h0
  simp only at hml hh1 hh0
  have hh:hd.toNat≤1000:=by
    omega
  refine spcG zi mixed Tryz.func13 (by kernel_rfl) { cfgF with keep:=some [0,1,4,6,10,11,12]} [Ws,Wq,ZI,ZH] (by kernel_rfl) ?_
  intro I X hI hX
  refine zh (.code 0 [1,1,0,1,0] ⟨[(12,(.v (.one (.p (.int .i64 0))))),(11,(.v (.one (.p (.int .i64 (I.len (α:=UInt8) b)))))),(10,(.v (.one (.p (.list .byte b))))),(4,(.v (.one .nilS))),(0,(.v (.one (.ptr 0 0)))),(1,(.v (.one (.p (.list .byte b)))))],[(.obj 60 [(.ptr 1 0),(.p (.int .i64 p)),(.p (.val (.pointer .none))),(.row 2),(.p (.int .i64 pa)),(.p (.int .i64 sk)),(.p (.int .i64 co)),.nilS]),(.pack [(.obj 91 [(.row 1),(.row 2),(.p (.int .i64 hd))]),(.row .byte 5 m),(.row .int 3 bs)]),(.row .fld 72 fs),(.row .evt 53 out)],25,none⟩) (by kernel_rfl) ?_
  simp only [zn]
  unfold zW
  simp only at hI0 ⊢
  refine zu hI zi mixed [Ws,Wq,ZI,ZH] hX [0,10,11,12] (fun(g:Nat × Fm)=>match g with|(i,r)=>i≤b.length∧r=xC (⟨m,hd,bs,p,none,fs,pa,sk,co,[]⟩:Fm) (b.take i)∧FmI r (n+i)∧zU r.out+r.held.toNat≤hd.toNat+2 * i) (fun(g:Nat × Fm)=>match g with|(i,r)=>⟨[(0,.v (.one (.ptr 0 0))),(10,.v (.one (.p (.list .byte b)))),(11,.v (.one (.p (.int .i64 ((I.len (α:=UInt8) b)))))),(12,.v (.one (.p (.int .i64 i))))],[.abs (.fm r)],25,none⟩) (fun(g:Nat × Fm)=>match g with|(i,r)=>b.length - i) (0,(⟨m,hd,bs,p,none,fs,pa,sk,co,[]⟩:Fm)) (by kernel_rfl) (by kernel_rfl) ?_ ?_
  · exact⟨Nat.zero_le _,rfl,hI0,by simp [zU]⟩
  rintro⟨i,⟨m2,hd2,bs2,p2,ln2,fs2,pa2,sk2,co2,out2⟩⟩ ⟨h1,h2,h3,h4⟩ A hA
  simp only at hA h1 h2 h3 h4
  have hrn:i<b.length→fmN _:=fun h=>⟨n+i,by omega,h3⟩
  have hgo:i<b.length→_:=fun h=>hA (i+1,fmF ⟨m2,hd2,bs2,p2,ln2,fs2,pa2,sk2,co2,out2⟩ (b.getD i 0)) ⟨by simp only;omega,by simp only;rw [zfA _ _ h,← h2],by simp only;exact zhz h3 _,by simp only;have:=zbr h3 (b.getD i 0);simp only at this;omega⟩ (by simp only;omega)
  have hend: ¬ i<b.length→_:=fun h=>h2.trans (by rw [List.take_of_length_le (by omega)])
  rcases ln2 with _|l2
  · have h0:=h1
    refine zh (let y0:=I.b2i (I.get (α:=UInt8) b 0 (Nat.cast i));let y1:=I.inb (Nat.cast i) (I.len (α:=UInt8) b);.br (I.ilt (Nat.cast i) (I.len (α:=UInt8) b)) (.need y1 (.need y1 (.need (I.hid (α:=(Prop)) (And (fmN (Go.Ab.Fm.mk m2 hd2 bs2 p2 (Option.none) fs2 pa2 sk2 co2 out2)) (And (LE.le (0:Int) y0) (LE.le y0 (255:Int))))) (.need (I.inr Go.IntKind.i64 (I.add (Nat.cast i) 1)) (.need (A ⟨[(0,(.v (.one (.ptr 0 0)))),(10,(.v (.one (.p (.list .byte b))))),(11,(.v (.one (.p (.int .i64 (I.len (α:=UInt8) b)))))),(12,(.v (.one (.p (.int .i64 (I.add (Nat.cast i) 1))))))],[(.abs (.fm (I.hid (α:=Go.Ab.Fm) (fmF (Go.Ab.Fm.mk m2 hd2 bs2 p2 (Option.none) fs2 pa2 sk2 co2 out2) (UInt8.ofNat (Int.toNat y0))))))],25,none⟩) .qed))))) (.need (I.hid (α:=(Prop)) (And (LE.le (zU out2) 1000000) (LE.le (List.length out2) 10000000))) (.fin (.ret (.v (.one (.row 1)))) [(.abs (.fm (Go.Ab.Fm.mk m2 hd2 bs2 p2 (Option.none) fs2 pa2 sk2 co2 out2))),(.row .evt 53 (I.hid (α:=(List Go.Ab.Evt)) (zN out2)))]))) (by kernel_rfl) ?_
    simp only [zn]
    subst hI
    simp only [nrmA,nrmB,nrlB,reduceCtorEq,HO.abs.injEq,Gh.fm.injEq]
    by_cases hi:i<b.length
    · have hg:=hgo hi
      have hn:=hrn hi
      (repeat' (first|refine And.intro ?_ ?_|intro _))<;>first|omega|exact True.intro|exact False.elim ‹False›|skip
      all_goals first|omega|exact hg|exact hn|contradiction|(have:=(b.getD i 0).toNat_lt;omega)|trace_state
    · have hg:=hend hi
      rw [← hg]
      have hon:=h3.on
      simp only at hon
      (repeat' (first|refine And.intro ?_ ?_|intro _))<;>first|omega|exact True.intro|exact False.elim ‹False›|skip
      all_goals first|omega|rfl|contradiction|exact⟨by omega,by omega⟩|trace_state
  · have h0:=h1
    refine zh (let y0:=I.b2i (I.get (α:=UInt8) b 0 (Nat.cast i));let y1:=I.inb (Nat.cast i) (I.len (α:=UInt8) b);.br (I.ilt (Nat.cast i) (I.len (α:=UInt8) b)) (.need y1 (.need y1 (.need (I.hid (α:=(Prop)) (And (fmN (Go.Ab.Fm.mk m2 hd2 bs2 p2 (Option.some l2) fs2 pa2 sk2 co2 out2)) (And (LE.le (0:Int) y0) (LE.le y0 (255:Int))))) (.need (I.inr Go.IntKind.i64 (I.add (Nat.cast i) 1)) (.need (A ⟨[(0,(.v (.one (.ptr 0 0)))),(10,(.v (.one (.p (.list .byte b))))),(11,(.v (.one (.p (.int .i64 (I.len (α:=UInt8) b)))))),(12,(.v (.one (.p (.int .i64 (I.add (Nat.cast i) 1))))))],[(.abs (.fm (I.hid (α:=Go.Ab.Fm) (fmF (Go.Ab.Fm.mk m2 hd2 bs2 p2 (Option.some l2) fs2 pa2 sk2 co2 out2) (UInt8.ofNat (Int.toNat y0))))))],25,none⟩) .qed))))) (.need (I.hid (α:=(Prop)) (And (LE.le (zU out2) 1000000) (LE.le (List.length out2) 10000000))) (.fin (.ret (.v (.one (.row 1)))) [(.abs (.fm (Go.Ab.Fm.mk m2 hd2 bs2 p2 (Option.some (Go.Ab.Ln.mk (Go.Ab.Ln.b l2) (Go.Ab.Ln.cr l2) (Go.Ab.Ln.code l2))) fs2 pa2 sk2 co2 out2))),(.row .evt 53 (I.hid (α:=(List Go.Ab.Evt)) (zN out2)))]))) (by kernel_rfl) ?_
    simp only [zn]
    subst hI
    simp only [nrmA,nrmB,nrlB,reduceCtorEq,HO.abs.injEq,Gh.fm.injEq]
    by_cases hi:i<b.length
    · have hg:=hgo hi
      have hn:=hrn hi
      (repeat' (first|refine And.intro ?_ ?_|intro _))<;>first|omega|exact True.intro|exact False.elim ‹False›|skip
      all_goals first|omega|exact hg|exact hn|contradiction|(have:=(b.getD i 0).toNat_lt;omega)|trace_state
    · have hg:=hend hi
      rw [← hg]
      have hon:=h3.on
      simp only at hon
      (repeat' (first|refine And.intro ?_ ?_|intro _))<;>first|omega|exact True.intro|exact False.elim ‹False›|skip
      all_goals first|omega|rfl|contradiction|exact⟨by omega,by omega⟩|trace_state
theorem zhu (m:Str) (hd:Int) (bs:List Int) (p:Int) (ln:Ln) (fs:List Fld) (pa sk co:Int) (out:List Evt) (b:Str) (hneed:fmN0 ⟨m,hd,bs,p,some ln,fs,pa,sk,co,out⟩ b):Spc Tryz.prog 13 [.v (.one (.ptr 0 0)),.v (.one (.p (.list .byte b)))] [.abs (.fm ⟨m,hd,bs,p,some ln,fs,pa,sk,co,out⟩)] (.ret (.v (.one (.row 1)))) [.abs (.fm ((zW ⟨m,hd,bs,p,some ln,fs,pa,sk,co,out⟩ b))),.row .evt 53 ((zN (zW ⟨m,hd,bs,p,some ln,fs,pa,sk,co,out⟩ b).out))]:=by
  obtain⟨n,hI0,hnb⟩:=hneed
  have hml:=hI0.ml
  have hh1:=hI0.h1
  have hh0:=hI0.h0
  simp only at hml hh1 hh0
  have hh:hd.toNat≤1000:=by
    omega
  refine spcG zi mixed Tryz.func13 (by kernel_rfl) { cfgF with keep:=some [0,1,4,6,10,11,12]} [Ws,Wq,ZI,ZH] (by kernel_rfl) ?_
  intro I X hI hX
  refine zh (.code 0 [1,1,0,1,0] ⟨[(12,(.v (.one (.p (.int .i64 0))))),(11,(.v (.one (.p (.int .i64 (I.len (α:=UInt8) b)))))),(10,(.v (.one (.p (.list .byte b))))),(4,(.v (.one .nilS))),(0,(.v (.one (.ptr 0 0)))),(1,(.v (.one (.p (.list .byte b)))))],[(.obj 60 [(.ptr 1 0),(.p (.int .i64 p)),(.ptr 2 0),(.row 3),(.p (.int .i64 pa)),(.p (.int .i64 sk)),(.p (.int .i64 co)),.nilS]),(.pack [(.obj 91 [(.row 1),(.row 2),(.p (.int .i64 hd))]),(.row .byte 5 m),(.row .int 3 bs)]),(.pack [(.obj 118 [(.row 1),(.p (.bool (Go.Ab.Ln.cr ln))),(.p (.int .i64 (Go.Ab.Ln.code ln)))]),(.row .byte 5 (Go.Ab.Ln.b ln))]),(.row .fld 72 fs),(.row .evt 53 out)],25,none⟩) (by kernel_rfl) ?_
  simp only [zn]
  unfold zW
  simp only at hI0 ⊢
  refine zu hI zi mixed [Ws,Wq,ZI,ZH] hX [0,10,11,12] (fun(g:Nat × Fm)=>match g with|(i,r)=>i≤b.length∧r=xC (⟨m,hd,bs,p,some ln,fs,pa,sk,co,[]⟩:Fm) (b.take i)∧FmI r (n+i)∧zU r.out+r.held.toNat≤hd.toNat+2 * i) (fun(g:Nat × Fm)=>match g with|(i,r)=>⟨[(0,.v (.one (.ptr 0 0))),(10,.v (.one (.p (.list .byte b)))),(11,.v (.one (.p (.int .i64 ((I.len (α:=UInt8) b)))))),(12,.v (.one (.p (.int .i64 i))))],[.abs (.fm r)],25,none⟩) (fun(g:Nat × Fm)=>match g with|(i,r)=>b.length - i) (0,(⟨m,hd,bs,p,some ln,fs,pa,sk,co,[]⟩:Fm)) (by kernel_rfl) (by kernel_rfl) ?_ ?_
  · exact⟨Nat.zero_le _,rfl,hI0,by simp [zU]⟩
  rintro⟨i,⟨m2,hd2,bs2,p2,ln2,fs2,pa2,sk2,co2,out2⟩⟩ ⟨h1,h2,h3,h4⟩ A hA
  simp only at hA h1 h2 h3 h4
  have hrn:i<b.length→fmN _:=fun h=>⟨n+i,by omega,h3⟩
  have hgo:i<b.length→_:=fun h=>hA (i+1,fmF ⟨m2,hd2,bs2,p2,ln2,fs2,pa2,sk2,co2,out2⟩ (b.getD i 0)) ⟨by simp only;omega,by simp only;rw [zfA _ _ h,← h2],by simp only;exact zhz h3 _,by simp only;have:=zbr h3 (b.getD i 0);simp only at this;omega⟩ (by simp only;omega)
  have hend: ¬ i<b.length→_:=fun h=>h2.trans (by rw [List.take_of_length_le (by omega)])
  rcases ln2 with _|l2
  · have h0:=h1
    refine zh (let y0:=I.b2i (I.get (α:=UInt8) b 0 (Nat.cast i));let y1:=I.inb (Nat.cast i) (I.len (α:=UInt8) b);.br (I.ilt (Nat.cast i) (I.len (α:=UInt8) b)) (.need y1 (.need y1 (.need (I.hid (α:=(Prop)) (And (fmN (Go.Ab.Fm.mk m2 hd2 bs2 p2 (Option.none) fs2 pa2 sk2 co2 out2)) (And (LE.le (0:Int) y0) (LE.le y0 (255:Int))))) (.need (I.inr Go.IntKind.i64 (I.add (Nat.cast i) 1)) (.need (A ⟨[(0,(.v (.one (.ptr 0 0)))),(10,(.v (.one (.p (.list .byte b))))),(11,(.v (.one (.p (.int .i64 (I.len (α:=UInt8) b)))))),(12,(.v (.one (.p (.int .i64 (I.add (Nat.cast i) 1))))))],[(.abs (.fm (I.hid (α:=Go.Ab.Fm) (fmF (Go.Ab.Fm.mk m2 hd2 bs2 p2 (Option.none) fs2 pa2 sk2 co2 out2) (UInt8.ofNat (Int.toNat y0))))))],25,none⟩) .qed))))) (.need (I.hid (α:=(Prop)) (And (LE.le (zU out2) 1000000) (LE.le (List.length out2) 10000000))) (.fin (.ret (.v (.one (.row 1)))) [(.abs (.fm (Go.Ab.Fm.mk m2 hd2 bs2 p2 (Option.none) fs2 pa2 sk2 co2 out2))),(.row .evt 53 (I.hid (α:=(List Go.Ab.Evt)) (zN out2)))]))) (by kernel_rfl) ?_
    simp only [zn]
    subst hI
    simp only [nrmA,nrmB,nrlB,reduceCtorEq,HO.abs.injEq,Gh.fm.injEq]
    by_cases hi:i<b.length
    · have hg:=hgo hi
      have hn:=hrn hi
      (repeat' (first|refine And.intro ?_ ?_|intro _))<;>first|omega|exact True.intro|exact False.elim ‹False›|skip
      all_goals first|omega|exact hg|exact hn|contradiction|(have:=(b.getD i 0).toNat_lt;omega)|trace_state
    · have hg:=hend hi
      rw [← hg]
      have hon:=h3.on
      simp only at hon
      (repeat' (first|refine And.intro ?_ ?_|intro _))<;>first|omega|exact True.intro|exact False.elim ‹False›|skip
      all_goals first|omega|rfl|contradiction|exact⟨by omega,by omega⟩|trace_state
  · have h0:=h1
    refine zh (let y0:=I.b2i (I.get (α:=UInt8) b 0 (Nat.cast i));let y1:=I.inb (Nat.cast i) (I.len (α:=UInt8) b);.br (I.ilt (Nat.cast i) (I.len (α:=UInt8) b)) (.need y1 (.need y1 (.need (I.hid (α:=(Prop)) (And (fmN (Go.Ab.Fm.mk m2 hd2 bs2 p2 (Option.some l2) fs2 pa2 sk2 co2 out2)) (And (LE.le (0:Int) y0) (LE.le y0 (255:Int))))) (.need (I.inr Go.IntKind.i64 (I.add (Nat.cast i) 1)) (.need (A ⟨[(0,(.v (.one (.ptr 0 0)))),(10,(.v (.one (.p (.list .byte b))))),(11,(.v (.one (.p (.int .i64 (I.len (α:=UInt8) b)))))),(12,(.v (.one (.p (.int .i64 (I.add (Nat.cast i) 1))))))],[(.abs (.fm (I.hid (α:=Go.Ab.Fm) (fmF (Go.Ab.Fm.mk m2 hd2 bs2 p2 (Option.some l2) fs2 pa2 sk2 co2 out2) (UInt8.ofNat (Int.toNat y0))))))],25,none⟩) .qed))))) (.need (I.hid (α:=(Prop)) (And (LE.le (zU out2) 1000000) (LE.le (List.length out2) 10000000))) (.fin (.ret (.v (.one (.row 1)))) [(.abs (.fm (Go.Ab.Fm.mk m2 hd2 bs2 p2 (Option.some (Go.Ab.Ln.mk (Go.Ab.Ln.b l2) (Go.Ab.Ln.cr l2) (Go.Ab.Ln.code l2))) fs2 pa2 sk2 co2 out2))),(.row .evt 53 (I.hid (α:=(List Go.Ab.Evt)) (zN out2)))]))) (by kernel_rfl) ?_
    simp only [zn]
    subst hI
    simp only [nrmA,nrmB,nrlB,reduceCtorEq,HO.abs.injEq,Gh.fm.injEq]
    by_cases hi:i<b.length
    · have hg:=hgo hi
      have hn:=hrn hi
      (repeat' (first|refine And.intro ?_ ?_|intro _))<;>first|omega|exact True.intro|exact False.elim ‹False›|skip
      all_goals first|omega|exact hg|exact hn|contradiction|(have:=(b.getD i 0).toNat_lt;omega)|trace_state
    · have hg:=hend hi
      rw [← hg]
      have hon:=h3.on
      simp only at hon
      (repeat' (first|refine And.intro ?_ ?_|intro _))<;>first|omega|exact True.intro|exact False.elim ‹False›|skip
      all_goals first|omega|rfl|contradiction|exact⟨by omega,by omega⟩|trace_state
theorem zjz (f:Fm) (b:Str) (hneed:fmN0 f b):Spc Tryz.prog 13 [.v (.one (.ptr 0 0)),.v (.one (.p (.list .byte b)))] [.abs (.fm f)] (.ret (.v (.one (.row 1)))) [.abs (.fm ((zW f b))),.row .evt 53 ((zN (zW f b).out))]:=by
  obtain⟨m,hd,bs,p,ln,fs,pa,sk,co,out⟩:=f
  cases ln with
  |none=>exact zhv m hd bs p fs pa sk co out b hneed
  |some ln=>exact zhu m hd bs p ln fs pa sk co out b hneed
def Yn (I:Alg) (args:List D) (hp:List HO):Option CT:=match args,hp with
  |[.v (.one (.ptr 0 0)),.v (.one (.p (.list .byte b)))],[.abs (.fm f)]=>(fun(f:Fm) (b:Str)=>(some (.one ⟨I.hid (fmN0 f b),(.ret (.v (.one (.row 1)))),[.abs (.fm (I.hid ((zW f b)))),.row .evt 53 (I.hid ((zN (zW f b).out)))]⟩):Option CT)) f b
  |_,_=>none
theorem zav:zy Tryz.prog 13 (Yn alg):=by
  intro args hp r h
  unfold Yn at h
  split at h
  · cases h;exact fun hn=>zjz _ _ hn
  · cases h
def qf:Know Tryz.prog:=⟨13,Yn,zav⟩
def qc:Know Tryz.prog:=⟨13,fun I=>zA I (Yn I),zf zav⟩
theorem zfM (m:Str) (hd:Int) (bs:List Int) (p:Int) (fs:List Fld) (pa sk co:Int) (out:List Evt):Spc Tryz.prog 16 [.v (.one (.ptr 0 0))] [.abs (.fm ⟨m,hd,bs,p,none,fs,pa,sk,co,out⟩)] (.ret (.v (.one (.p (.int .i64 ((yT ⟨m,hd,bs,p,none,fs,pa,sk,co,out⟩))))))) [.abs (.fm ⟨m,hd,bs,p,none,fs,pa,sk,co,out⟩)]:=by
  generalize hr:yT ⟨m,hd,bs,p,none,fs,pa,sk,co,out⟩=r
  unfold yT at hr
  simp only at hr
  refine spcG zi mixed Tryz.func16 (by kernel_rfl) { cfgF with keep:=some [0,2,6]} [] (by kernel_rfl) ?_
  intro I X hI hX
  refine zh (.br (I.ieq p 8) (.fin (.ret (.v (.one (.p (.int .i64 co))))) [(.abs (.fm (Go.Ab.Fm.mk m hd bs p (Option.none) fs pa sk co out)))]) (.br (I.ieq p 7) (.fin (.ret (.v (.one (.p (.int .i64 0))))) [(.abs (.fm (Go.Ab.Fm.mk m hd bs p (Option.none) fs pa sk co out)))]) (.fin (.ret (.v (.one (.p (.int .i64 14))))) [(.abs (.fm (Go.Ab.Fm.mk m hd bs p (Option.none) fs pa sk co out)))]))) (by kernel_rfl) ?_
  simp only [zn]
  subst hI
  simp only [nrmA,nrmB,nrlB,reduceCtorEq,HO.abs.injEq,Gh.fm.injEq]
  (repeat' (first|refine And.intro ?_ ?_|intro _))<;>first|omega|exact True.intro|exact False.elim ‹False›|skip
  all_goals first|omega|rfl|(subst hr;simp [*];done)|trace_state
theorem zfL (m:Str) (hd:Int) (bs:List Int) (p:Int) (ln:Ln) (fs:List Fld) (pa sk co:Int) (out:List Evt):Spc Tryz.prog 16 [.v (.one (.ptr 0 0))] [.abs (.fm ⟨m,hd,bs,p,some ln,fs,pa,sk,co,out⟩)] (.ret (.v (.one (.p (.int .i64 ((yT ⟨m,hd,bs,p,some ln,fs,pa,sk,co,out⟩))))))) [.abs (.fm ⟨m,hd,bs,p,some ln,fs,pa,sk,co,out⟩)]:=by
  generalize hr:yT ⟨m,hd,bs,p,some ln,fs,pa,sk,co,out⟩=r
  unfold yT at hr
  simp only at hr
  refine spcG zi mixed Tryz.func16 (by kernel_rfl) { cfgF with keep:=some [0,2,6]} [] (by kernel_rfl) ?_
  intro I X hI hX
  refine zh (.br (I.ieq p 8) (.fin (.ret (.v (.one (.p (.int .i64 co))))) [(.abs (.fm (Go.Ab.Fm.mk m hd bs p (Option.some (Go.Ab.Ln.mk (Go.Ab.Ln.b ln) (Go.Ab.Ln.cr ln) (Go.Ab.Ln.code ln))) fs pa sk co out)))]) (.br (I.ieq p 7) (.fin (.ret (.v (.one (.p (.int .i64 0))))) [(.abs (.fm (Go.Ab.Fm.mk m hd bs p (Option.some (Go.Ab.Ln.mk (Go.Ab.Ln.b ln) (Go.Ab.Ln.cr ln) (Go.Ab.Ln.code ln))) fs pa sk co out)))]) (.fin (.ret (.v (.one (.p (.int .i64 14))))) [(.abs (.fm (Go.Ab.Fm.mk m hd bs p (Option.some (Go.Ab.Ln.mk (Go.Ab.Ln.b ln) (Go.Ab.Ln.cr ln) (Go.Ab.Ln.code ln))) fs pa sk co out)))]))) (by kernel_rfl) ?_
  simp only [zn]
  subst hI
  simp only [nrmA,nrmB,nrlB,reduceCtorEq,HO.abs.injEq,Gh.fm.injEq]
  (repeat' (first|refine And.intro ?_ ?_|intro _))<;>first|omega|exact True.intro|exact False.elim ‹False›|skip
  all_goals first|omega|rfl|(subst hr;simp [*];done)|trace_state
theorem zhA (f:Fm):Spc Tryz.prog 16 [.v (.one (.ptr 0 0))] [.abs (.fm f)] (.ret (.v (.one (.p (.int .i64 ((yT f))))))) [.abs (.fm f)]:=by
  obtain⟨m,hd,bs,p,ln,fs,pa,sk,co,out⟩:=f
  cases ln with
  |none=>exact zfM m hd bs p fs pa sk co out
  |some ln=>exact zfL m hd bs p ln fs pa sk co out
def qK (I:Alg) (args:List D) (hp:List HO):Option CT:=match args,hp with
  |[.v (.one (.ptr 0 0))],[.abs (.fm f)]=>(fun(f:Fm)=>(some (.one ⟨I.hid (True),(.ret (.v (.one (.p (.int .i64 (I.hid ((yT f)))))))),[.abs (.fm f)]⟩):Option CT)) f
  |_,_=>none
theorem UU:zy Tryz.prog 16 (qK alg):=by
  intro args hp r h
  unfold qK at h
  split at h
  · cases h;exact fun hn=>zhA _
  · cases h
def uY:Know Tryz.prog:=⟨16,qK,UU⟩
def uX:Know Tryz.prog:=⟨16,fun I=>zA I (qK I),zf UU⟩
theorem zfK (s:Str) (hneed:s.length≤140737488355328∧yG s=true):Spc Tryz.prog 7 [.v (.one (.p (.str s)))] [] (.ret (.tup [(.one (.ptr 0 0)),(.one (.p (.int .i64 0)))])) [.abs (.fm ((fm0 s)))]:=by
  obtain⟨hs,hm⟩:=hneed
  have hl:s.length≤70:=by unfold yG at hm;simp at hm;omega
  generalize hr:fm0 s=r
  unfold fm0 fmSk at hr
  simp only [Int.toNat_natCast] at hr
  refine spcG zi mixed Tryz.func7 (by kernel_rfl) { cfgF with keep:=some [0,2,3,4]} [Y4,Y3,zh6,zh5,Yt,Yr] (by kernel_rfl) ?_
  intro I X hI hX
  refine zh (let y0:=I.hid (α:=Int) (Nat.cast (Prod.fst (Prod.snd (yh (I.app (α:=UInt8) ([13,10,45,45]:Str) s) (Int.toNat (0:Int)) (UInt8.ofNat (Int.toNat (13:Int)))))));let y1:=I.hid (α:=(List Int)) (wG (I.app (α:=UInt8) ([13,10,45,45]:Str) s));.need (I.hid (α:=(Prop)) (LE.le (List.length s) 140737488355328)) (.br (I.bnot (I.hid (α:=Bool) (yG s))) (.fin (.ret (.tup [(.one (.p (.val (.pointer .none)))),(.one (.p (.int .i64 5)))])) []) (.need (I.few (I.add (I.len (α:=UInt8) ([13,10,45,45]:Str)) (I.len (α:=UInt8) s)) 1000000000) (.need (I.hid (α:=(Prop)) (LE.le (List.length (I.app (α:=UInt8) ([13,10,45,45]:Str) s)) 999999)) (.need (I.hid (α:=(Prop)) (And (Eq y1 (wG (I.app (α:=UInt8) ([13,10,45,45]:Str) s))) (And (LE.le (List.length (I.app (α:=UInt8) ([13,10,45,45]:Str) s)) 1000000) (And (LE.le (0:Int) (0:Int)) (And (Or (Eq (I.app (α:=UInt8) ([13,10,45,45]:Str) s) ([]:Str)) (LT.lt (0:Int) (Nat.cast (List.length (I.app (α:=UInt8) ([13,10,45,45]:Str) s))))) (And (LE.le (0:Int) (13:Int)) (LE.le (13:Int) (255:Int)))))))) (.need (I.hid (α:=(Prop)) (And (Eq y1 (wG (I.app (α:=UInt8) ([13,10,45,45]:Str) s))) (And (LE.le (List.length (I.app (α:=UInt8) ([13,10,45,45]:Str) s)) 1000000) (And (LE.le (0:Int) y0) (And (Or (Eq (I.app (α:=UInt8) ([13,10,45,45]:Str) s) ([]:Str)) (LT.lt y0 (Nat.cast (List.length (I.app (α:=UInt8) ([13,10,45,45]:Str) s))))) (And (LE.le (0:Int) (10:Int)) (LE.le (10:Int) (255:Int)))))))) (.fin (.ret (.tup [(.one (.ptr 0 0)),(.one (.p (.int .i64 0)))])) [(.abs (.fm (Go.Ab.Fm.mk (I.app (α:=UInt8) ([13,10,45,45]:Str) s) (I.hid (α:=Int) (Nat.cast (Prod.fst (Prod.snd (yh (I.app (α:=UInt8) ([13,10,45,45]:Str) s) (Int.toNat y0) (UInt8.ofNat (Int.toNat (10:Int)))))))) y1 (0:Int) (Option.none) ([]:List Fld) (0:Int) (0:Int) (0:Int) ([]:List Go.Ab.Evt))))]))))))) (by kernel_rfl) ?_
  simp only [zn]
  unfold zH at hr
  subst hI
  simp only [nrmA,nrmB,nrlB,reduceCtorEq,HO.abs.injEq,Gh.fm.injEq]
  have hM:([13,10,45,45]++s).length=s.length+4:=by simp
  generalize([13,10,45,45]++s:Str)=M at *
  have h1:=Yp M 0 13
  (repeat' (first|refine And.intro ?_ ?_|intro _))<;>first|omega|exact True.intro|exact False.elim ‹False›|skip
  all_goals first
    |omega
    |exact .inr (by omega)
    |exact h1
    |exact Int.natCast_nonneg _
    |exact absurd (hm.symm.trans ‹yG s=false›) (by decide)
    |(subst hr;rfl)
    |(simp only [List.length_cons,List.length_nil];omega)
def Yk (I:Alg) (args:List D) (hp:List HO):Option CT:=match args,hp with
  |[.v (.one (.p (.str s)))],[]=>(fun(s:Str)=>(some (.one ⟨I.hid (s.length≤140737488355328∧yG s=true),(.ret (.tup [(.one (.ptr 0 0)),(.one (.p (.int .i64 0)))])),[.abs (.fm (I.hid ((fm0 s))))]⟩):Option CT)) s
  |_,_=>none
theorem zar:zy Tryz.prog 7 (Yk alg):=by
  intro args hp r h
  unfold Yk at h
  split at h
  · cases h;exact fun hn=>zfK _ hn
  · cases h
def VE:Know Tryz.prog:=⟨7,Yk,zar⟩
def VD:Know Tryz.prog:=⟨7,fun I=>zA I (Yk I),zf zar⟩
theorem zfJ (s:Str) (hneed:s.length≤140737488355328∧yG s=false):Spc Tryz.prog 7 [.v (.one (.p (.str s)))] [] (.ret (.tup [(.one (.p (.val (.pointer none)))),(.one (.p (.int .i64 5)))])) []:=by
  obtain⟨hs,hm⟩:=hneed
  refine spcG zi mixed Tryz.func7 (by kernel_rfl) { cfgF with keep:=some [0,2,3,4]} [Y4,Y3,zh6,zh5,Yt,Yr,VE,VD] (by kernel_rfl) ?_
  intro I X hI hX
  refine zh (let y0:=I.hid (α:=Int) (Nat.cast (Prod.fst (Prod.snd (yh (I.app (α:=UInt8) ([13,10,45,45]:Str) s) (Int.toNat (0:Int)) (UInt8.ofNat (Int.toNat (13:Int)))))));let y1:=I.hid (α:=(List Int)) (wG (I.app (α:=UInt8) ([13,10,45,45]:Str) s));.need (I.hid (α:=(Prop)) (LE.le (List.length s) 140737488355328)) (.br (I.bnot (I.hid (α:=Bool) (yG s))) (.fin (.ret (.tup [(.one (.p (.val (.pointer .none)))),(.one (.p (.int .i64 5)))])) []) (.need (I.few (I.add (I.len (α:=UInt8) ([13,10,45,45]:Str)) (I.len (α:=UInt8) s)) 1000000000) (.need (I.hid (α:=(Prop)) (LE.le (List.length (I.app (α:=UInt8) ([13,10,45,45]:Str) s)) 999999)) (.need (I.hid (α:=(Prop)) (And (Eq y1 (wG (I.app (α:=UInt8) ([13,10,45,45]:Str) s))) (And (LE.le (List.length (I.app (α:=UInt8) ([13,10,45,45]:Str) s)) 1000000) (And (LE.le (0:Int) (0:Int)) (And (Or (Eq (I.app (α:=UInt8) ([13,10,45,45]:Str) s) ([]:Str)) (LT.lt (0:Int) (Nat.cast (List.length (I.app (α:=UInt8) ([13,10,45,45]:Str) s))))) (And (LE.le (0:Int) (13:Int)) (LE.le (13:Int) (255:Int)))))))) (.need (I.hid (α:=(Prop)) (And (Eq y1 (wG (I.app (α:=UInt8) ([13,10,45,45]:Str) s))) (And (LE.le (List.length (I.app (α:=UInt8) ([13,10,45,45]:Str) s)) 1000000) (And (LE.le (0:Int) y0) (And (Or (Eq (I.app (α:=UInt8) ([13,10,45,45]:Str) s) ([]:Str)) (LT.lt y0 (Nat.cast (List.length (I.app (α:=UInt8) ([13,10,45,45]:Str) s))))) (And (LE.le (0:Int) (10:Int)) (LE.le (10:Int) (255:Int)))))))) (.fin (.ret (.tup [(.one (.ptr 0 0)),(.one (.p (.int .i64 0)))])) [(.abs (.fm (Go.Ab.Fm.mk (I.app (α:=UInt8) ([13,10,45,45]:Str) s) (I.hid (α:=Int) (Nat.cast (Prod.fst (Prod.snd (yh (I.app (α:=UInt8) ([13,10,45,45]:Str) s) (Int.toNat y0) (UInt8.ofNat (Int.toNat (10:Int)))))))) y1 (0:Int) (Option.none) ([]:List Fld) (0:Int) (0:Int) (0:Int) ([]:List Go.Ab.Evt))))]))))))) (by kernel_rfl) ?_
  simp only [zn]
  subst hI
  simp only [nrmA,nrmB,nrlB,reduceCtorEq]
  exact⟨hs,fun _=>trivial,by simp [hm]⟩
end Go.Proofs.YtknaogelmckimaaGreatDoor
namespace Go.Proofs.YtknaogelmckimaaGreatDoor
open Go Go.Sep Go.Ab
inductive GR:List Evt→Prop
  |nil:GR []
  |other {l:List Evt} {e:Evt} (h:GR l) (h2:e.kind≠2) (h5:e.kind=5→e.part.bytes=[]):GR (l++[e])
  |body {l:List Evt} {x e:Evt} (h:GR (l++[x])) (hx:x.kind=5∨x.kind=2) (h2:e.kind=2) (hb:e.bytes≠[]):GR (l++[x]++[e])
inductive GJ:List Evt→Prop
  |nil:GJ []
  |other {l:List Evt} {e:Evt} (h:GJ l) (h2:e.kind≠2) (h5:e.kind=5→e.part.bytes=[]):GJ (l++[e])
  |body {l:List Evt} {x e:Evt} (h:GJ (l++[x])) (hx:x.kind=5) (h2:e.kind=2) (hb:e.bytes≠[]):GJ (l++[x]++[e])
theorem zjk {l:List Evt} {x:Evt} (h:GR (l++[x])): ∃ z y,zN (l++[x])=z++[y]∧y.kind=x.kind∧(x.kind≠2→y=x):=by
  rw [vG]
  rcases List.eq_nil_or_concat (zN l) with hn|⟨z,y,hz⟩
  · rw [hn,rU];exact⟨[],x,rfl,rfl,fun _=>rfl⟩
  · rw [hz,List.concat_eq_append,yY]
    split
    · rename_i h;exact⟨z,_,rfl,h.1.symm,fun k=>absurd h.1 k⟩
    · exact⟨z++[y],x,rfl,rfl,fun _=>rfl⟩
theorem zjm {z:List Evt} {y:Evt} (h:GJ (z++[y])) (k:y.kind=2): ∃ l x,z=l++[x]∧GJ (l++[x])∧x.kind=5∧y.bytes≠[]:=by
  generalize hw:z++[y]=w at h
  cases h with
  |nil=>simp at hw
  | other h h2 h5=>
    have:=List.append_inj' hw rfl
    have e:=List.singleton_inj.1 this.2
    exact absurd (e▸k) h2
  | body h hx h2 hb=>
    have:=List.append_inj' hw rfl
    have e:=List.singleton_inj.1 this.2
    exact⟨_,_,this.1,h,hx,by rw [e];exact hb⟩
theorem zln {l:List Evt} (h:GR l):GJ (zN l):=by
  induction h with
  |nil=>exact .nil
  | @other l e h h2 h5 ih=>
    rw [vG]
    rcases List.eq_nil_or_concat (zN l) with hn|⟨z,y,hz⟩
    · rw [hn,rU];exact GJ.other (l:=[]) .nil h2 h5
    · rw [hz,List.concat_eq_append] at ih ⊢
      rw [yY,if_neg (fun k=>h2 k.1)]
      exact .other ih h2 h5
  | @body l x e h hx h2 hb ih=>
    obtain⟨z,y,hz,hk,hy⟩:=zjk h
    rw [vG,hz,yY]
    rw [hz] at ih
    by_cases k:y.kind=2
    · rw [if_pos ⟨h2,k⟩]
      obtain⟨l',x',rfl,g1,g2,g3⟩:=zjm ih k
      refine .body g1 g2 rfl ?_
      simp only [evB]
      intro h;exact g3 (List.append_eq_nil_iff.1 h).1
    · rw [if_neg (fun h=>k h.2)]
      exact .body ih (by rcases hx with hx|hx;rw [hk];exact hx;exact absurd (hk.trans hx) k) h2 hb
def GI (l:List Evt) (i:Nat) (d:Evt):Prop:=((l.getD i d).kind=2→(l.getD i d).bytes≠[]∧∃ j,i=j+1∧(l.getD j d).kind=5)∧((l.getD i d).kind=5→(l.getD i d).part.bytes=[])
theorem zab {a b:List Evt} {i:Nat} (h:i<a.length) (d:Evt):(a++b).getD i d=a.getD i d:=by
  rw [List.getD_eq_getElem?_getD,List.getElem?_append_left h,← List.getD_eq_getElem?_getD]
theorem zlo {l:List Evt} (h:GJ l) (d:Evt): ∀ i,i<l.length→GI l i d:=by
  induction h with
  |nil=>intro i hi;simp at hi
  | @other l e h h2 h5 ih=>
    intro i hi
    rw [List.length_append,List.length_singleton] at hi
    by_cases k:i<l.length
    · obtain⟨a,b⟩:=ih i k
      unfold GI
      rw [zab k]
      refine⟨fun q=> ?_,b⟩
      obtain⟨a1,j,rfl,a2⟩:=a q
      exact⟨a1,j,rfl,by rw [zab (by omega)];exact a2⟩
    · have e1:(l++[e]).getD i d=e:=by rw [show i=l.length by omega];simp
      unfold GI
      rw [e1]
      exact⟨fun q=>absurd q h2,h5⟩
  | @body l x e h hx h2 hb ih=>
    intro i hi
    rw [List.length_append,List.length_singleton] at hi
    by_cases k:i<(l++[x]).length
    · obtain⟨a,b⟩:=ih i k
      unfold GI
      rw [zab k]
      refine⟨fun q=> ?_,b⟩
      obtain⟨a1,j,rfl,a2⟩:=a q
      exact⟨a1,j,rfl,by rw [zab (by omega)];exact a2⟩
    · have hl:(l++[x]).length=l.length+1:=by simp
      have hi2:i=l.length+1:=by omega
      subst hi2
      have e1:(l++[x]++[e]).getD (l.length+1) d=e:=by rw [← hl];simp
      have e2:(l++[x]++[e]).getD l.length d=x:=by rw [zab (by omega)];simp
      unfold GI
      rw [e1]
      exact⟨fun _=>⟨hb,l.length,rfl,by rw [e2];exact hx⟩,fun q=>absurd (h2.symm.trans q) (by decide)⟩
def GM (f:Fm):Prop:=GR f.out∧(f.pos=6→∃ l x,f.out=l++[x]∧(x.kind=5∨x.kind=2))
theorem zfq {f:Fm} (h:GR f.out) {e:Evt} (h2:e.kind≠2) (h5:e.kind=5→e.part.bytes=[]):GR (f.out++[e]):=.other h h2 h5
theorem Zo {f:Fm} (h:GM f) (c:Int):GM (zG f c):=⟨zfq h.1 (show(4:Int)≠2 by decide) (fun e=>absurd (show(4:Int)=5 from e) (by decide)),fun e=>absurd (show(8:Int)=6 from e) (by decide)⟩
theorem zhm {f:Fm} (h:GM f):GM (yD f):=by
  unfold yD
  split
  · exact Zo h _
  · split
    · exact Zo h _
    · exact⟨zfq h.1 (show(5:Int)≠2 by decide) (fun _=>TI f.fields),fun _=>⟨_,_,rfl,.inl rfl⟩⟩
theorem zjl {f:Fm} (h:GM f) (s:Str):GM (xH f s):=by
  unfold xH
  split
  · exact zhm h
  · split
    · exact Zo h _
    · split
      · exact Zo h _
      · exact h
theorem gm_f {f:Fm} (h:GM f) (c:UInt8):GM (fmF f c):=by
  have hno: ∀ {n:Int},n≠6→n=6→∃ l x,f.out=l++[x]∧(x.kind=5∨x.kind=2):=fun a b=>absurd b a
  unfold fmF
  split
  · unfold yg
    split
    · show GR (if f.pos=6∧yI f c≠[] then f.out++[evB (yI f c)] else f.out)∧(f.pos=6→∃ l x,(if f.pos=6∧yI f c≠[] then f.out++[evB (yI f c)] else f.out)=l++[x]∧(x.kind=5∨x.kind=2))
      split
      · rename_i k
        obtain⟨l,x,e,hx⟩:=h.2 k.1
        refine⟨?_,fun _=>⟨f.out,_,rfl,.inr rfl⟩⟩
        have:=h.1
        rw [e] at this ⊢
        exact .body this hx rfl k.2
      · exact h
    · show GR (if f.pos=6 then(if yI f c≠[] then f.out++[evB (yI f c),evO] else f.out++[evO]) else f.out)∧((1:Int)=6→_)
      refine⟨?_,fun e=>absurd e (by decide)⟩
      split
      · rename_i k
        obtain⟨l,x,e,hx⟩:=h.2 k
        split
        · rename_i k2
          rw [show f.out++[evB (yI f c),evO]=f.out++[evB (yI f c)]++[evO] by simp]
          refine .other ?_ (by decide) (fun q=>absurd (show(6:Int)=5 from q) (by decide))
          have:=h.1
          rw [e] at this ⊢
          exact .body this hx rfl k2
        · exact .other h.1 (by decide) (fun q=>absurd (show(6:Int)=5 from q) (by decide))
      · exact h.1
  · split
    · unfold zJ
      split
      · exact⟨h.1,fun e=>absurd (show(2:Int)=6 from e) (by decide)⟩
      · split
        · exact⟨zfq h.1 (show(3:Int)≠2 by decide) (fun e=>absurd (show(3:Int)=5 from e) (by decide)),fun e=>absurd (show(7:Int)=6 from e) (by decide)⟩
        · split
          · exact⟨h.1,fun e=>absurd (show(3:Int)=6 from e) (by decide)⟩
          · split
            · exact⟨h.1,fun e=>absurd (show(4:Int)=6 from e) (by decide)⟩
            · exact Zo h 5
    · split
      · split
        · exact Zo h 2
        · exact⟨h.1,fun e=>absurd (show(5:Int)=6 from e) (by decide)⟩
      · split
        · have hk:GM { f with ln:=some (lnF (lnOf f) c).1}:=h
          split
          · exact Zo hk _
          · split
            · exact zjl hk _
            · exact hk
        · exact h
theorem zie: ∀ (b:Str) (f:Fm),GM f→GM (xC f b)
  |[],f,h=>h
  |c::r,f,h=>zie r (fmF f c) (gm_f h c)
theorem zeK (s b:Str) (d:Evt): ∀ i,i<(zN (zW (fm0 s) b).out).length→GI (zN (zW (fm0 s) b).out) i d:=
  zlo (zln (zie b { fm0 s with out:=[]} ⟨.nil,fun e=>absurd (show(0:Int)=6 from e) (by decide)⟩).1) d
theorem zjD {s:Str} (h:s.length≤70):FmI { fm0 s with out:=[]} 0:=by
  have h0:FmI ⟨zH s,0,wG (zH s),0,none,[],0,0,0,[]⟩ 0:=
    ⟨rfl,by unfold zH;simp;omega,Int.le_refl _,by unfold zH;simp;omega,⟨Int.le_refl _,(show(0:Int)≤2 by decide)⟩,⟨Int.le_refl _,(show(0:Int)≤12 by decide)⟩,Nat.zero_le _,(fun x hx=>by cases hx),(fun l e=>by cases e),(fun e=>absurd (show(0:Int)=5 from e) (by decide)),Nat.zero_le _⟩
  exact UO (UO h0 13) 10
theorem Vb (l:List Evt) (d:Evt) {i:Nat} (h:i<l.length):(l.take (i+1)).foldl prtS []=prtS ((l.take i).foldl prtS []) (l.getD i d):=by
  rw [List.take_succ_eq_append_getElem h,List.foldl_append]
  simp [h]
theorem Qn {l:List Evt} {d:Evt} {i:Nat} (h:i<l.length) (hg: ∀ j,j<l.length→GI l j d) (k:(l.getD i d).kind=2): ∃ z p,(l.take i).foldl prtS []=z++[p]∧p.bytes=[]∧(l.getD i d).bytes≠[]:=by
  obtain⟨hb,j,rfl,hj⟩:=(hg i h).1 k
  refine⟨(l.take j).foldl prtS [],(l.getD j d).part,?_,(hg j (by omega)).2 hj,hb⟩
  rw [Vb l d (show j<l.length by omega),prtS,if_pos hj]
theorem TF (l:List Evt): ∀ o:List Prt,(l.foldl prtS o).length≤o.length+l.length:=by
  induction l with
  |nil=>intro o;simp
  | cons e r ih=>
    intro o
    have h:=ih (prtS o e)
    have h2 :(prtS o e).length≤o.length+1:=by
      unfold prtS
      split
      · simp
      · split
        · split
          · rename_i p hp
            simp only [List.length_append,List.length_dropLast,List.length_singleton];omega
          · omega
        · omega
    rw [List.foldl_cons,List.length_cons];omega
theorem zak: ∀ (b:Str) (f:Fm) (i:Nat),FmI f i→zU (xC f b).out+(xC f b).held.toNat≤zU f.out+f.held.toNat+2 * b.length
  |[],f,i,h=>by simp [xC]
  | c::r,f,i,h=>by
    have h1:=zak r (fmF f c) (i+1) (zhz h c)
    have h2:=zbr h c
    rw [List.length_cons]
    show zU (xC (fmF f c) r).out+(xC (fmF f c) r).held.toNat≤_
    omega
theorem Ym {s b:Str} (h:s.length≤70):(zN (zW (fm0 s) b).out).length≤4 * b.length∧zU (zN (zW (fm0 s) b).out)≤1000+2 * b.length:=by
  have hI:=zjD h
  have h1:(zW (fm0 s) b).out.length≤4 * (0+b.length):=(zfC b _ 0 hI).on
  have h2:zU (zW (fm0 s) b).out+(zW (fm0 s) b).held.toNat≤0+(fm0 s).held.toNat+2 * b.length:=zak b _ 0 hI
  have h3:=QN (zW (fm0 s) b).out
  have h4:=QM (zW (fm0 s) b).out
  have h5:(fm0 s).held<(fm0 s).mark.length:=hI.h1
  have h6:(fm0 s).mark.length≤1000:=hI.ml
  have h7:0≤(fm0 s).held:=hI.h0
  omega
end Go.Proofs.YtknaogelmckimaaGreatDoor
namespace Go.Proofs.YtknaogelmckimaaGreatDoor
open Go Go.Sep Go.Ab
set_option maxRecDepth 100000
theorem zjI (s b:Str) (hneed:(s.length≤1000000∧b.length≤300000)∧yG s=true):Spc Tryz.prog 10 [.v (.one (.p (.str s))),.v (.one (.p (.list .byte b)))] [] (.ret (.tup [(.one (.p (.list .prt ((xM s b).1)))),(.one (.p (.int .i64 ((xM s b).2))))])) []:=by
  obtain⟨⟨hs,hb⟩,hm⟩:=hneed
  have hl:s.length≤70:=by unfold yG at hm;simp at hm;omega
  have hI0:=zjD hl
  have hg:=zeK s b ⟨0,⟨[],[],0,[],0⟩,[],⟨[],[],[],[]⟩,0⟩
  have hle:=Ym (b:=b) hl
  have hN:fmN0 (fm0 s) b:=⟨0,hI0,by omega⟩
  generalize hr:xM s b=r
  unfold xM at hr
  rw [hm,if_neg (by decide)] at hr
  refine spcG zi mixed Tryz.func10 (by kernel_rfl) { cfgF with rl:=[0],nr:=[8],keep:=some [0,1,4,5,6,7,8,10,11,12,23,24,25,30]} [qf,qc,uY,uX,VE,VD] (by kernel_rfl) ?_
  intro I X hI hX
  refine zh (let y0:=I.hid (α:=(List Go.Ab.Evt)) (zN (Go.Ab.Fm.out (zW (I.hid (α:=Go.Ab.Fm) (fm0 s)) b)));.need (I.hid (α:=(Prop)) (And (LE.le (List.length s) 140737488355328) (Eq (yG s) Bool.true))) (.br (I.bnot (I.ieq 0 0)) (.fin (.ret (.tup [(.one (.p (.list .prt ([]:List Go.Ab.Prt)))),(.one (.p (.int .i64 0)))])) []) (.need (I.hid (α:=(Prop)) (fmN0 (I.hid (α:=Go.Ab.Fm) (fm0 s)) b)) (.code 0 [1,1,1,1,0,1,0] ⟨[(25,(.v (.one (.p (.int .i64 0))))),(24,(.v (.one (.p (.int .i64 (I.len (α:=Go.Ab.Evt) y0)))))),(23,(.v (.one (.row 2)))),(8,(.v (.one (.row 1)))),(7,(.v (.one (.p (.int .i64 0))))),(6,(.v (.one (.ptr 0 0)))),(5,(.v (.one (.p (.int .i64 0))))),(4,(.v (.one .nilS))),(0,(.v (.one (.p (.str s))))),(1,(.v (.one (.p (.list .byte b)))))],[(.abs (.fm (I.hid (α:=Go.Ab.Fm) (zW (I.hid (α:=Go.Ab.Fm) (fm0 s)) b)))),(.row .prt 51 ([]:List Go.Ab.Prt)),(.row .evt 53 y0)],62,none⟩)))) (by kernel_rfl) ?_
  simp only [zn]
  generalize fm0 s=F0 at *
  refine⟨?_,fun c=> ?_,fun _=>⟨?_,?_⟩⟩
  · subst hI;exact⟨by omega,hm⟩
  · subst hI;exact absurd c (by decide)
  · subst hI;exact hN
  rw [show I.hid F0=F0 by subst hI;rfl]
  rw [show I.hid (zW F0 b)=zW F0 b by subst hI;rfl]
  generalize zW F0 b=F at *
  rw [show I.hid (zN F.out)=zN F.out by subst hI;rfl]
  generalize zN F.out=L at *
  refine zu hI zi mixed [qf,qc,uY,uX,VE,VD] hX [6,8,23,24,25] (fun(g:Nat × List Prt)=>match g with|(i,o)=>i≤L.length∧o=(L.take i).foldl prtS []) (fun(g:Nat × List Prt)=>match g with|(i,o)=>⟨[(6,.v (.one (.ptr 0 0))),(8,.v (.one (.row 1))),(23,.v (.one (.row 2))),(24,.v (.one (.p (.int .i64 ((I.len (α:=Evt) L)))))),(25,.v (.one (.p (.int .i64 i))))],[.abs (.fm F),.row .prt 51 o,.row .evt 53 L],62,none⟩) (fun(g:Nat × List Prt)=>match g with|(i,o)=>L.length - i) (0,[]) (by kernel_rfl) (by kernel_rfl) ?_ ?_
  · exact⟨Nat.zero_le _,rfl⟩
  rintro⟨i,o⟩ ⟨h1,h2⟩ A hA
  simp only at hA h1 h2
  refine zh (let y0:=I.get (α:=Go.Ab.Evt) L (Go.Ab.Evt.mk (0:Int) (Hd.mk ([]:Str) ([]:Str) (0:Int) ([]:List Fld) (0:Int)) ([]:Str) (Go.Ab.Prt.mk ([]:Str) ([]:Str) ([]:Str) ([]:Str)) (0:Int)) (Nat.cast i);let y6:=I.sub (I.len (α:=Go.Ab.Prt) o) 1;let y1:=I.get (α:=Go.Ab.Prt) o (Go.Ab.Prt.mk ([]:Str) ([]:Str) ([]:Str) ([]:Str)) y6;let y2:=I.inb y6 (I.len (α:=Go.Ab.Prt) o);let y3:=I.inr Go.IntKind.i64 (I.add (Nat.cast i) 1);let y4:=I.inb (Nat.cast i) (I.len (α:=Go.Ab.Evt) L);let y5:=I.len (α:=UInt8) (Go.Ab.Evt.bytes y0);.br (I.ilt (Nat.cast i) (I.len (α:=Go.Ab.Evt) L)) (.need y4 (.need y4 (.br (I.ieq (Go.Ab.Evt.kind y0) 5) (.need (I.few (I.add (I.len (α:=Go.Ab.Prt) o) (I.len (α:=Go.Ab.Prt) ([(Go.Ab.Prt.mk (Go.Ab.Prt.name (Go.Ab.Evt.part y0)) (Go.Ab.Prt.file (Go.Ab.Evt.part y0)) (Go.Ab.Prt.type (Go.Ab.Evt.part y0)) (Go.Ab.Prt.bytes (Go.Ab.Evt.part y0)))]:List Go.Ab.Prt))) 100000000) (.need y3 (.need (A ⟨[(6,(.v (.one (.ptr 0 0)))),(8,(.v (.one (.row 1)))),(23,(.v (.one (.row 2)))),(24,(.v (.one (.p (.int .i64 (I.len (α:=Go.Ab.Evt) L)))))),(25,(.v (.one (.p (.int .i64 (I.add (Nat.cast i) 1))))))],[(.abs (.fm F)),(.row .prt 51 (I.app (α:=Go.Ab.Prt) o ([(Go.Ab.Prt.mk (Go.Ab.Prt.name (Go.Ab.Evt.part y0)) (Go.Ab.Prt.file (Go.Ab.Evt.part y0)) (Go.Ab.Prt.type (Go.Ab.Evt.part y0)) (Go.Ab.Prt.bytes (Go.Ab.Evt.part y0)))]:List Go.Ab.Prt))),(.row .evt 53 L)],62,none⟩) .qed))) (.br (I.ieq (Go.Ab.Evt.kind y0) 2) (.need (I.inr Go.IntKind.i64 y6) (.need y2 (.need y2 (.need (I.same (α:=Int) (I.len (α:=UInt8) (Go.Ab.Prt.bytes y1)) 0) (.need (I.few y5 140737488355328) (.need (I.nne y5) (.need y2 (.need y3 (.need (A ⟨[(6,(.v (.one (.ptr 0 0)))),(8,(.v (.one (.row 1)))),(23,(.v (.one (.row 2)))),(24,(.v (.one (.p (.int .i64 (I.len (α:=Go.Ab.Evt) L)))))),(25,(.v (.one (.p (.int .i64 (I.add (Nat.cast i) 1))))))],[(.abs (.fm F)),(.row .prt 51 (I.set (α:=Go.Ab.Prt) o y6 (Go.Ab.Prt.mk (Go.Ab.Prt.name y1) (Go.Ab.Prt.file y1) (Go.Ab.Prt.type y1) (Go.Ab.Evt.bytes y0)))),(.row .evt 53 L)],62,none⟩) .qed))))))))) (.need y3 (.need (A ⟨[(6,(.v (.one (.ptr 0 0)))),(8,(.v (.one (.row 1)))),(23,(.v (.one (.row 2)))),(24,(.v (.one (.p (.int .i64 (I.len (α:=Go.Ab.Evt) L)))))),(25,(.v (.one (.p (.int .i64 (I.add (Nat.cast i) 1))))))],[(.abs (.fm F)),(.row .prt 51 o),(.row .evt 53 L)],62,none⟩) .qed)))))) (.need (I.hid (α:=(Prop)) True) (.br (I.bnot (I.ieq (I.hid (α:=Int) (yT F)) 0)) (.fin (.ret (.tup [(.one (.p (.list .prt ([]:List Go.Ab.Prt)))),(.one (.p (.int .i64 (I.hid (α:=Int) (yT F)))))])) []) (.fin (.ret (.tup [(.one (.p (.list .prt o))),(.one (.p (.int .i64 0)))])) [])))) (by kernel_rfl) ?_
  simp only [zn]
  subst hI
  simp only [nrmA,nrmB,nrlB,reduceCtorEq]
  have hlo:=TF (L.take i) []
  rw [← h2,List.length_take,List.length_nil] at hlo
  have hb2:i<L.length→_→_:=fun h k=>Qn h hg k
  have hs2:i<L.length→_:=fun h=>Vb L ⟨0,⟨[],[],0,[],0⟩,[],⟨[],[],[],[]⟩,0⟩ h
  have hsum:i<L.length→(L.getD i ⟨0,⟨[],[],0,[],0⟩,[],⟨[],[],[],[]⟩,0⟩).bytes.length≤zU L:=fun h=>by
    refine VP ?_
    rw [show L.getD i ⟨0,⟨[],[],0,[],0⟩,[],⟨[],[],[],[]⟩,0⟩=L[i] by simp [h]]
    exact List.getElem_mem h
  rw [← h2] at hb2 hs2
  have hgo:i<L.length→_:=fun h=>hA (i+1,prtS o (L.getD i ⟨0,⟨[],[],0,[],0⟩,[],⟨[],[],[],[]⟩,0⟩)) ⟨by simp only;omega,by simp only;rw [hs2 h]⟩ (by simp only;omega)
  have hend: ¬ i<L.length→L.foldl prtS []=o:=fun h=>by rw [h2,List.take_of_length_le (by omega)]
  clear hg hs2 hA
  generalize L.getD i ⟨0,⟨[],[],0,[],0⟩,[],⟨[],[],[],[]⟩,0⟩=x at *
  simp only [Int.natCast_add,Int.natCast_one] at hgo
  refine⟨fun c=> ?_,fun c=> ?_⟩
  · have hgo:=hgo (by omega)
    have hb2:=hb2 (by omega)
    have hsum:=hsum (by omega)
    by_cases k5:x.kind=5
    · rw [prtS,if_pos k5] at hgo
      (repeat' (first|refine And.intro ?_ ?_|intro _))<;>first|omega|exact True.intro|exact False.elim ‹False›|skip
      all_goals first
        |omega
        |(simp only [List.length_singleton];omega)
        |exact hgo
        |exact absurd k5 ‹_›
    · by_cases k2:x.kind=2
      · obtain⟨z,p,hz,hp,hxb⟩:=hb2 k2
        have hxb:0<x.bytes.length:=by cases hq:x.bytes with|nil=>exact absurd hq hxb|cons _ _=>simp
        subst hz
        rw [show prtS (z++[p]) x=z++[⟨p.name,p.file,p.type,x.bytes⟩] by unfold prtS;rw [if_neg k5,if_pos k2];simp [hp]] at hgo
        have e1:(((z++[p]).length:Int) - 1).toNat=z.length:=by rw [List.length_append,List.length_singleton];omega
        have e2:(z++[p]).getD z.length ⟨[],[],[],[]⟩=p:=by simp
        have e3: ∀ q,(z++[p]).set z.length q=z++[q]:=fun q=>by simp
        simp only [e1,e2,e3,hp]
        simp only [List.length_append,List.length_singleton,List.length_nil]
        clear e1 e2 e3
        rw [List.length_append,List.length_singleton] at hlo
        (repeat' (first|refine And.intro ?_ ?_|intro _))<;>first|omega|exact True.intro|exact False.elim ‹False›|skip
        all_goals first
          |omega
          |exact hgo
          |exact absurd k2 ‹_›
          |exact absurd ‹x.kind=5› k5
      · rw [prtS,if_neg k5,if_neg k2] at hgo
        (repeat' (first|refine And.intro ?_ ?_|intro _))<;>first|omega|exact True.intro|exact False.elim ‹False›|skip
        all_goals first
          |omega
          |exact hgo
          |exact absurd ‹x.kind=5› k5
          |exact absurd ‹x.kind=2› k2
  · have he:=hend (by omega)
    rw [he] at hr
    subst hr
    (repeat' (first|refine And.intro ?_ ?_|intro _))<;>first|omega|exact True.intro|exact False.elim ‹False›|skip
    all_goals first
      |omega
      |(rw [if_pos ‹¬ yT F=0›];done)
      |(rw [if_neg (fun h=>h ‹yT F=0›)];done)
end Go.Proofs.YtknaogelmckimaaGreatDoor
namespace Go.Proofs.YtknaogelmckimaaGreatDoor
open Go Go.Sep Go.Ab
set_option maxRecDepth 100000
theorem zjx (s:Str) (hneed:s.length≤140737488355328∧yG s=false):Spc Tryz.prog 7 [.v (.one (.p (.str s)))] [] (.ret (.tup [(.one (.p (.val (.pointer none)))),(.one (.p (.int .i64 5)))])) []:=zfJ s hneed
def Yj (I:Alg) (args:List D) (hp:List HO):Option CT:=match args,hp with
  |[.v (.one (.p (.str s)))],[]=>(fun(s:Str)=>(some (.one ⟨I.hid (s.length≤140737488355328∧yG s=false),(.ret (.tup [(.one (.p (.val (.pointer none)))),(.one (.p (.int .i64 5)))])),[]⟩):Option CT)) s
  |_,_=>none
theorem zaq:zy Tryz.prog 7 (Yj alg):=by
  intro args hp r h
  unfold Yj at h
  split at h
  · cases h;exact fun hn=>zjx _ hn
  · cases h
def zfI:Know Tryz.prog:=⟨7,Yj,zaq⟩
def zfH:Know Tryz.prog:=⟨7,fun I=>zA I (Yj I),zf zaq⟩
theorem zhx (b:Str) (hneed:False):Spc Tryz.prog 13 [.v (.one (.p (.val (.pointer none)))),.v (.one (.p (.list .byte b)))] [] (.ret (.v (.one (.row 0)))) [.row .evt 53 (([]:List Evt))]:=hneed.elim
def qI (I:Alg) (args:List D) (hp:List HO):Option CT:=match args,hp with
  |[.v (.one (.p (.val (.pointer none)))),.v (.one (.p (.list .byte b)))],[]=>(fun(b:Str)=>(some (.one ⟨I.hid (False),(.ret (.v (.one (.row 0)))),[.row .evt 53 (I.hid (([]:List Evt)))]⟩):Option CT)) b
  |_,_=>none
theorem UQ:zy Tryz.prog 13 (qI alg):=by
  intro args hp r h
  unfold qI at h
  split at h
  · cases h;exact fun hn=>zhx _ hn
  · cases h
def YZ:Know Tryz.prog:=⟨13,qI,UQ⟩
def YX:Know Tryz.prog:=⟨13,fun I=>zA I (qI I),zf UQ⟩
theorem zjH (s b:Str) (hneed:(s.length≤1000000∧b.length≤300000)∧yG s=false):Spc Tryz.prog 10 [.v (.one (.p (.str s))),.v (.one (.p (.list .byte b)))] [] (.ret (.tup [(.one (.p (.list .prt ((xM s b).1)))),(.one (.p (.int .i64 ((xM s b).2))))])) []:=by
  obtain⟨⟨hs,hb⟩,hm⟩:=hneed
  generalize hr:xM s b=r
  unfold xM at hr
  rw [if_pos hm] at hr
  subst hr
  refine spcG zi mixed Tryz.func10 (by kernel_rfl) { cfgF with rl:=[0],nr:=[8],keep:=some [0,1,4,5,6,7,8,10,11,12,23,24,25,30]} [qf,qc,YZ,YX,uY,uX,zfI,zfH] (by kernel_rfl) ?_
  intro I X hI hX
  refine zh (let y0:=I.hid (α:=(List Go.Ab.Evt)) ([]:List Go.Ab.Evt);.need (I.hid (α:=(Prop)) (And (LE.le (List.length s) 140737488355328) (Eq (yG s) Bool.false))) (.br (I.bnot (I.ieq 5 0)) (.fin (.ret (.tup [(.one (.p (.list .prt ([]:List Go.Ab.Prt)))),(.one (.p (.int .i64 5)))])) []) (.need (I.hid (α:=(Prop)) False) (.code 0 [1,1,1,1,0,1,0] ⟨[(25,(.v (.one (.p (.int .i64 0))))),(24,(.v (.one (.p (.int .i64 (I.len (α:=Go.Ab.Evt) y0)))))),(23,(.v (.one (.row 1)))),(8,(.v (.one (.row 0)))),(7,(.v (.one (.p (.int .i64 5))))),(6,(.v (.one (.p (.val (.pointer .none)))))),(5,(.v (.one (.p (.int .i64 0))))),(4,(.v (.one .nilS))),(0,(.v (.one (.p (.str s))))),(1,(.v (.one (.p (.list .byte b)))))],[(.row .prt 51 ([]:List Go.Ab.Prt)),(.row .evt 53 y0)],62,none⟩)))) (by kernel_rfl) ?_
  simp only [zn]
  subst hI
  simp only [nrmA,nrmB,nrlB,reduceCtorEq]
  exact⟨⟨by omega,hm⟩,fun _=>trivial,by decide⟩
theorem zkY (s b:Str) (hneed:s.length≤1000000∧b.length≤300000):Spc Tryz.prog 10 [.v (.one (.p (.str s))),.v (.one (.p (.list .byte b)))] [] (.ret (.tup [(.one (.p (.list .prt ((xM s b).1)))),(.one (.p (.int .i64 ((xM s b).2))))])) []:=by
  cases hm:yG s with
  |true=>exact zjI s b ⟨hneed,hm⟩
  |false=>exact zjH s b ⟨hneed,hm⟩
def Wx (I:Alg) (args:List D) (hp:List HO):Option CT:=match args,hp with
  |[.v (.one (.p (.str s))),.v (.one (.p (.list .byte b)))],[]=>(fun(s b:Str)=>(some (.one ⟨I.hid (s.length≤1000000∧b.length≤300000),(.ret (.tup [(.one (.p (.list .prt (I.hid ((xM s b).1))))),(.one (.p (.int .i64 (I.hid ((xM s b).2)))))])),[]⟩):Option CT)) s b
  |_,_=>none
theorem zc9:zy Tryz.prog 10 (Wx alg):=by
  intro args hp r h
  unfold Wx at h
  split at h
  · cases h;exact fun hn=>zkY _ _ hn
  · cases h
def SH:Know Tryz.prog:=⟨10,Wx,zc9⟩
def SG:Know Tryz.prog:=⟨10,fun I=>zA I (Wx I),zf zc9⟩
def begB:Str:=[45,45,88,13,10,67,111,110,116,101,110,116,45,68,105,115,112,111,115,105,116,105,111,110,58,32,102,111,114,109,45,100,97,116,97,59,32,110,97,109,101,61,97,13,10,13,10,98,13,10,45,45,88,45,45]
theorem zgo:xM [88] begB=([⟨[97],[],[],[98]⟩],0):=by decide+kernel
theorem zd7:Spc Tryz.prog 6 [] [] (.ret (.v (.one (.p (.bool true))))) []:=by
  refine spcG zi mixed Tryz.func6 (by kernel_rfl) { fz:=[10],keep:=some [0,1,2]} [zc7,zc6,Yt,Yr,SH,SG] (by kernel_rfl) ?_
  intro I X hI hX
  refine zh (let y0:=I.hid (α:=(List Go.Ab.Prt)) (Prod.fst (xM ([88]:Str) ([(I.i2b 45),(I.i2b 45),(I.i2b 88),(I.i2b 13),(I.i2b 10),(I.i2b 67),(I.i2b 111),(I.i2b 110),(I.i2b 116),(I.i2b 101),(I.i2b 110),(I.i2b 116),(I.i2b 45),(I.i2b 68),(I.i2b 105),(I.i2b 115),(I.i2b 112),(I.i2b 111),(I.i2b 115),(I.i2b 105),(I.i2b 116),(I.i2b 105),(I.i2b 111),(I.i2b 110),(I.i2b 58),(I.i2b 32),(I.i2b 102),(I.i2b 111),(I.i2b 114),(I.i2b 109),(I.i2b 45),(I.i2b 100),(I.i2b 97),(I.i2b 116),(I.i2b 97),(I.i2b 59),(I.i2b 32),(I.i2b 110),(I.i2b 97),(I.i2b 109),(I.i2b 101),(I.i2b 61),(I.i2b 97),(I.i2b 13),(I.i2b 10),(I.i2b 13),(I.i2b 10),(I.i2b 98),(I.i2b 13),(I.i2b 10),(I.i2b 45),(I.i2b 45),(I.i2b 88),(I.i2b 45),(I.i2b 45)]:Str)));let y1:=I.inb 0 (I.len (α:=Go.Ab.Prt) y0);let y2:=I.get (α:=Go.Ab.Prt) y0 (Go.Ab.Prt.mk ([]:Str) ([]:Str) ([]:Str) ([]:Str)) 0;let y3:=([47,46,46,47,46,97,34]:Str);.need (I.inr Go.IntKind.u8 45) (.need (I.inr Go.IntKind.u8 45) (.need (I.inr Go.IntKind.u8 88) (.need (I.inr Go.IntKind.u8 13) (.need (I.inr Go.IntKind.u8 10) (.need (I.inr Go.IntKind.u8 67) (.need (I.inr Go.IntKind.u8 111) (.need (I.inr Go.IntKind.u8 110) (.need (I.inr Go.IntKind.u8 116) (.need (I.inr Go.IntKind.u8 101) (.need (I.inr Go.IntKind.u8 110) (.need (I.inr Go.IntKind.u8 116) (.need (I.inr Go.IntKind.u8 45) (.need (I.inr Go.IntKind.u8 68) (.need (I.inr Go.IntKind.u8 105) (.need (I.inr Go.IntKind.u8 115) (.need (I.inr Go.IntKind.u8 112) (.need (I.inr Go.IntKind.u8 111) (.need (I.inr Go.IntKind.u8 115) (.need (I.inr Go.IntKind.u8 105) (.need (I.inr Go.IntKind.u8 116) (.need (I.inr Go.IntKind.u8 105) (.need (I.inr Go.IntKind.u8 111) (.need (I.inr Go.IntKind.u8 110) (.need (I.inr Go.IntKind.u8 58) (.need (I.inr Go.IntKind.u8 32) (.need (I.inr Go.IntKind.u8 102) (.need (I.inr Go.IntKind.u8 111) (.need (I.inr Go.IntKind.u8 114) (.need (I.inr Go.IntKind.u8 109) (.need (I.inr Go.IntKind.u8 45) (.need (I.inr Go.IntKind.u8 100) (.need (I.inr Go.IntKind.u8 97) (.need (I.inr Go.IntKind.u8 116) (.need (I.inr Go.IntKind.u8 97) (.need (I.inr Go.IntKind.u8 59) (.need (I.inr Go.IntKind.u8 32) (.need (I.inr Go.IntKind.u8 110) (.need (I.inr Go.IntKind.u8 97) (.need (I.inr Go.IntKind.u8 109) (.need (I.inr Go.IntKind.u8 101) (.need (I.inr Go.IntKind.u8 61) (.need (I.inr Go.IntKind.u8 97) (.need (I.inr Go.IntKind.u8 13) (.need (I.inr Go.IntKind.u8 10) (.need (I.inr Go.IntKind.u8 13) (.need (I.inr Go.IntKind.u8 10) (.need (I.inr Go.IntKind.u8 98) (.need (I.inr Go.IntKind.u8 13) (.need (I.inr Go.IntKind.u8 10) (.need (I.inr Go.IntKind.u8 45) (.need (I.inr Go.IntKind.u8 45) (.need (I.inr Go.IntKind.u8 88) (.need (I.inr Go.IntKind.u8 45) (.need (I.inr Go.IntKind.u8 45) (.need (I.inb 0 (I.len (α:=UInt8) ([(I.i2b 45),(I.i2b 45),(I.i2b 88),(I.i2b 13),(I.i2b 10),(I.i2b 67),(I.i2b 111),(I.i2b 110),(I.i2b 116),(I.i2b 101),(I.i2b 110),(I.i2b 116),(I.i2b 45),(I.i2b 68),(I.i2b 105),(I.i2b 115),(I.i2b 112),(I.i2b 111),(I.i2b 115),(I.i2b 105),(I.i2b 116),(I.i2b 105),(I.i2b 111),(I.i2b 110),(I.i2b 58),(I.i2b 32),(I.i2b 102),(I.i2b 111),(I.i2b 114),(I.i2b 109),(I.i2b 45),(I.i2b 100),(I.i2b 97),(I.i2b 116),(I.i2b 97),(I.i2b 59),(I.i2b 32),(I.i2b 110),(I.i2b 97),(I.i2b 109),(I.i2b 101),(I.i2b 61),(I.i2b 97),(I.i2b 13),(I.i2b 10),(I.i2b 13),(I.i2b 10),(I.i2b 98),(I.i2b 13),(I.i2b 10),(I.i2b 45),(I.i2b 45),(I.i2b 88),(I.i2b 45),(I.i2b 45)]:Str))) (.need (I.hid (α:=(Prop)) (And (LE.le (List.length ([88]:Str)) 1000000) (LE.le (List.length ([(I.i2b 45),(I.i2b 45),(I.i2b 88),(I.i2b 13),(I.i2b 10),(I.i2b 67),(I.i2b 111),(I.i2b 110),(I.i2b 116),(I.i2b 101),(I.i2b 110),(I.i2b 116),(I.i2b 45),(I.i2b 68),(I.i2b 105),(I.i2b 115),(I.i2b 112),(I.i2b 111),(I.i2b 115),(I.i2b 105),(I.i2b 116),(I.i2b 105),(I.i2b 111),(I.i2b 110),(I.i2b 58),(I.i2b 32),(I.i2b 102),(I.i2b 111),(I.i2b 114),(I.i2b 109),(I.i2b 45),(I.i2b 100),(I.i2b 97),(I.i2b 116),(I.i2b 97),(I.i2b 59),(I.i2b 32),(I.i2b 110),(I.i2b 97),(I.i2b 109),(I.i2b 101),(I.i2b 61),(I.i2b 97),(I.i2b 13),(I.i2b 10),(I.i2b 13),(I.i2b 10),(I.i2b 98),(I.i2b 13),(I.i2b 10),(I.i2b 45),(I.i2b 45),(I.i2b 88),(I.i2b 45),(I.i2b 45)]:Str)) 300000))) (.br (I.ieq (I.hid (α:=Int) (Prod.snd (xM ([88]:Str) ([(I.i2b 45),(I.i2b 45),(I.i2b 88),(I.i2b 13),(I.i2b 10),(I.i2b 67),(I.i2b 111),(I.i2b 110),(I.i2b 116),(I.i2b 101),(I.i2b 110),(I.i2b 116),(I.i2b 45),(I.i2b 68),(I.i2b 105),(I.i2b 115),(I.i2b 112),(I.i2b 111),(I.i2b 115),(I.i2b 105),(I.i2b 116),(I.i2b 105),(I.i2b 111),(I.i2b 110),(I.i2b 58),(I.i2b 32),(I.i2b 102),(I.i2b 111),(I.i2b 114),(I.i2b 109),(I.i2b 45),(I.i2b 100),(I.i2b 97),(I.i2b 116),(I.i2b 97),(I.i2b 59),(I.i2b 32),(I.i2b 110),(I.i2b 97),(I.i2b 109),(I.i2b 101),(I.i2b 61),(I.i2b 97),(I.i2b 13),(I.i2b 10),(I.i2b 13),(I.i2b 10),(I.i2b 98),(I.i2b 13),(I.i2b 10),(I.i2b 45),(I.i2b 45),(I.i2b 88),(I.i2b 45),(I.i2b 45)]:Str)))) 0) (.br (I.ieq (I.len (α:=Go.Ab.Prt) y0) 1) (.need y1 (.need y1 (.br (I.seq (Go.Ab.Prt.name y2) ([97]:Str)) (.need y1 (.need y1 (.br (I.seq (Go.Ab.Prt.bytes y2) ([98]:Str)) (.need (I.hid (α:=(Prop)) (LE.le (List.length y3) 1000000)) (.br (I.seq (I.hid (α:=Str) (vI y3)) ([97,95]:Str)) (.need (I.hid (α:=(Prop)) (LE.le (List.length ([88]:Str)) 140737488355328)) (.fin (.ret (.v (.one (.p (.bool (I.hid (α:=Bool) (yG ([88]:Str)))))))) [])) (.fin (.ret (.v (.one (.p (.bool Bool.false))))) []))) (.fin (.ret (.v (.one (.p (.bool Bool.false))))) [])))) (.fin (.ret (.v (.one (.p (.bool Bool.false))))) [])))) (.fin (.ret (.v (.one (.p (.bool Bool.false))))) [])) (.fin (.ret (.v (.one (.p (.bool Bool.false))))) []))))))))))))))))))))))))))))))))))))))))))))))))))))))))))) (by kernel_rfl) ?_
  simp only [zn]
  subst hI
  simp only [nrmA,nrmB,nrlB,reduceCtorEq]
  generalize hR:xM [88] _=R
  have hR:=hR.symm.trans zgo
  subst hR
  have hs:vI [47,46,46,47,46,97,34]=[97,95]:=by decide+kernel
  have hm:yG [88]=true:=by decide+kernel
  simp only [hs,hm]
  (repeat' (first|refine And.intro ?_ ?_|intro _))<;>first|omega|exact True.intro|exact False.elim ‹False›|skip
  all_goals first
    |omega
    |decide+kernel
    |(simp;done)
def uw (I:Alg) (args:List D) (hp:List HO):Option CT:=match args,hp with
  |[],[]=>(fun(_:Unit)=>(some (.one ⟨I.hid (True),(.ret (.v (.one (.p (.bool true))))),[]⟩):Option CT)) ()
  |_,_=>none
theorem Xr:zy Tryz.prog 6 (uw alg):=by
  intro args hp r h
  unfold uw at h
  split at h
  · cases h;exact fun hn=>zd7
  · cases h
def Xq:Know Tryz.prog:=⟨6,uw,Xr⟩
def Xp:Know Tryz.prog:=⟨6,fun I=>zA I (uw I),zf Xr⟩
end Go.Proofs.YtknaogelmckimaaGreatDoor
namespace Go.Proofs.YtknaogelmckimaaGreatDoor
open Go Go.Sep Go.Ab
set_option maxRecDepth 100000
def okc (c:UInt8):Prop:=c≠47∧c≠92∧c≠9∧c≠34∧c≠58∧vk (c.toNat:Int)=true
end Go.Proofs.YtknaogelmckimaaGreatDoor
namespace Go.Proofs.YtknaogelmckimaaGreatDoor
open Go Go.Sep Go.Ab
set_option maxRecDepth 100000
def noSt (s:Str):Prop:=∀ c ∈ s,c≠47∧c≠92
def fS (c:UInt8):UInt8:=if c=9∨vk (c.toNat:Int)=false∨c=34∨c=58 then 95 else c
theorem Tt: ∀ (t b:Str),noSt t→(b≠[]∨t.head?≠some 46)→t.foldl xR b=b++t.map fS
  |[],b,_,_=>by simp
  | c ::r,b,h,k=>by
    obtain⟨h1,h2⟩:=h c (List.mem_cons_self ..)
    have e:xR b c=b++[fS c]:=by
      unfold xR fS
      rw [if_neg (by rintro(e|e);exact h1 e;exact h2 e)]
      split
      · rfl
      · rw [if_neg]
        rintro⟨e,q⟩
        rcases k with k|k
        · exact k q
        · exact k (by rw [e];rfl)
    rw [List.foldl_cons,e,Tt r (b++[fS c]) (fun x hx=>h x (List.mem_cons_of_mem _ hx)) (.inl (by simp))]
    simp
theorem zgV {t:Str} (h:t.head?=some 46):t.foldl xR []=(t.drop 1).foldl xR []:=by
  cases t with
  |nil=>cases h
  | cons c r=>
    have:c=46:=Option.some.inj h
    subst this
    rfl
theorem zkX (c:UInt8):[fS c]=if(c.toNat:Int)=9 then [95] else if vk (c.toNat:Int)=false then [95] else if(c.toNat:Int)=34 then [95] else if(c.toNat:Int)=58 then [95] else [c]:=by
  have e3:(c.toNat:Int)=9↔c=9:=rE c 9 (by decide)
  have e4:(c.toNat:Int)=34↔c=34:=rE c 34 (by decide)
  have e5:(c.toNat:Int)=58↔c=58:=rE c 58 (by decide)
  simp only [e3,e4,e5]
  unfold fS
  generalize vk (c.toNat:Int)=k
  repeat' split
  all_goals simp_all
theorem zix {s:Str} {i f:Nat} (h:i<s.length) (hf:f≤i) (hn:noSt ((s.take i).drop f)) (he:(s.take i).foldl xR []=((s.take i).drop f).foldl xR []):
    ((s.getD i 0=47∨s.getD i 0=92)→noSt ((s.take (i+1)).drop (i+1))∧(s.take (i+1)).foldl xR []=((s.take (i+1)).drop (i+1)).foldl xR [])∧
    (¬ (s.getD i 0=47∨s.getD i 0=92)→noSt ((s.take (i+1)).drop f)∧(s.take (i+1)).foldl xR []=((s.take (i+1)).drop f).foldl xR []):=by
  have hs:=Qe s i h
  have ht:s.take (i+1)=s.take i++[s.getD i 0]:=by rw [List.take_succ_eq_append_getElem h];simp [h]
  have hl:(s.take i).length=i:=by rw [List.length_take];omega
  refine⟨fun k=> ?_,fun k=> ?_⟩
  · have hd:(s.take (i+1)).drop (i+1)=[]:=List.drop_of_length_le (by rw [List.length_take];omega)
    rw [hd]
    refine⟨fun c hc=>absurd hc List.not_mem_nil,?_⟩
    rw [hs]
    unfold xR
    rw [if_pos k];rfl
  · have hd:(s.take (i+1)).drop f=(s.take i).drop f++[s.getD i 0]:=by rw [ht,List.drop_append_of_le_length (by omega)]
    rw [hd]
    refine⟨fun c hc=> ?_,?_⟩
    · rcases List.mem_append.1 hc with h5|h5
      · exact hn c h5
      · rw [List.mem_singleton.1 h5];exact⟨fun e=>k (.inl e),fun e=>k (.inr e)⟩
    · rw [hs,he,List.foldl_append];rfl
theorem zkb (s:Str) (hneed:s.length≤1000000):Spc Tryz.prog 43 [.v (.one (.p (.str s)))] [] (.ret (.v (.one (.p (.str ((vI s))))))) []:=by
  generalize hr:vI s=r
  unfold vI at hr
  refine spcG zi mixed Tryz.func43 (by kernel_rfl) { keep:=some [0,2,3,4,5,6]} [wu,wo] (by kernel_rfl) ?_
  intro I X hI hX
  refine zh (.code 0 [1,1,0,1,0] ⟨[(4,(.v (.one (.p (.int .i64 0))))),(3,(.v (.one (.p (.int .i64 0))))),(2,(.v (.one (.p (.str ([]:Str)))))),(0,(.v (.one (.p (.str s)))))],[],83,none⟩) (by kernel_rfl) ?_
  simp only [zn]
  refine zu hI zi mixed [wu,wo] hX [0,3,4] (fun(g:Nat × Nat)=>match g with|(i,f)=>i≤s.length∧f≤i∧noSt ((s.take i).drop f)∧(s.take i).foldl xR []=((s.take i).drop f).foldl xR []) (fun(g:Nat × Nat)=>match g with|(i,f)=>⟨[(0,.v (.one (.p (.str s)))),(3,.v (.one (.p (.int .i64 f)))),(4,.v (.one (.p (.int .i64 i))))],[],83,none⟩) (fun(g:Nat × Nat)=>match g with|(i,f)=>s.length - i) (0,0) (by kernel_rfl) (by kernel_rfl) ?_ ?_
  · exact⟨Nat.zero_le _,Nat.le_refl _,fun c hc=>absurd hc (by simp),rfl⟩
  rintro⟨i,f⟩ ⟨h1,h2,h3,h4⟩ A hA
  simp only at hA h1 h2 h3 h4
  refine zh (let y0:=I.inr Go.IntKind.i64 (I.add (Nat.cast i) 1);let y1:=I.b2i (I.get (α:=UInt8) s 0 (Nat.cast i));let y2:=I.inb (Nat.cast i) (I.len (α:=UInt8) s);.br (I.ilt (Nat.cast i) (I.len (α:=UInt8) s)) (.need y2 (.br (I.ieq y1 47) (.need y0 (.need y0 (.need (A ⟨[(0,(.v (.one (.p (.str s))))),(3,(.v (.one (.p (.int .i64 (I.add (Nat.cast i) 1)))))),(4,(.v (.one (.p (.int .i64 (I.add (Nat.cast i) 1))))))],[],83,none⟩) .qed))) (.need y2 (.br (I.ieq y1 92) (.need y0 (.need y0 (.need (A ⟨[(0,(.v (.one (.p (.str s))))),(3,(.v (.one (.p (.int .i64 (I.add (Nat.cast i) 1)))))),(4,(.v (.one (.p (.int .i64 (I.add (Nat.cast i) 1))))))],[],83,none⟩) .qed))) (.need y0 (.need (A ⟨[(0,(.v (.one (.p (.str s))))),(3,(.v (.one (.p (.int .i64 (Nat.cast f)))))),(4,(.v (.one (.p (.int .i64 (I.add (Nat.cast i) 1))))))],[],83,none⟩) .qed)))))) (.need (I.cutb (Int.ofNat f) (I.len (α:=UInt8) s) (I.len (α:=UInt8) s)) (.code 1 [1,1,1,1,0,0] ⟨[(0,(.v (.one (.p (.str (I.cut (α:=UInt8) s (Int.ofNat f) (I.len (α:=UInt8) s))))))),(3,(.v (.one (.p (.int .i64 (Nat.cast f)))))),(4,(.v (.one (.p (.int .i64 (Nat.cast i))))))],[],83,none⟩))) (by kernel_rfl) ?_
  simp only [zn]
  refine⟨fun c=> ?_,fun c=> ?_⟩
  · have hi:i<s.length:=by subst hI;(simp only [nrmA,nrmB,nrlB,reduceCtorEq] at *);omega
    obtain⟨g1,g2⟩:=zix hi h2 h3 h4
    have a1:=fun h=>hA (i+1,i+1) ⟨by simp only;omega,Nat.le_refl _,(g1 h).1,(g1 h).2⟩ (by simp only;omega)
    have a2:=fun h=>hA (i+1,f) ⟨by simp only;omega,by simp only;omega,(g2 h).1,(g2 h).2⟩ (by simp only;omega)
    subst hI
    simp only [nrmA,nrmB,nrlB,reduceCtorEq]
    simp only [Int.natCast_add,Int.natCast_one] at a1 a2
    have e1:((s.getD i 0).toNat:Int)=47↔s.getD i 0=47:=rE _ 47 (by decide)
    have e2:((s.getD i 0).toNat:Int)=92↔s.getD i 0=92:=rE _ 92 (by decide)
    generalize s.getD i 0=x at *
    (repeat' (first|refine And.intro ?_ ?_|intro _))<;>first|omega|exact True.intro|exact False.elim ‹False›|skip
    all_goals first
      |omega
      |exact a1 (.inl (e1.1 ‹_›))
      |exact a1 (.inr (e2.1 ‹_›))
      |exact a2 (fun h=>h.elim (fun h=>‹¬ (x.toNat:Int)=47› (e1.2 h)) (fun h=>‹¬ (x.toNat:Int)=92› (e2.2 h)))
  · have hi:i=s.length:=by subst hI;(simp only [nrmA,nrmB,nrlB,reduceCtorEq] at *);omega
    subst hi
    rw [List.take_length] at h3 h4
    refine⟨by subst hI;(simp only [nrmA,nrmB,nrlB,reduceCtorEq]);omega,?_⟩
    rw [show I.cut s (Int.ofNat f) (I.len s)=s.drop f by subst hI;rw [xN,zO,Int.toNat_natCast];exact List.take_of_length_le (by simp)]
    have ht:(s.drop f).length≤1000000:=by rw [List.length_drop];omega
    generalize s.foldl xR []=G at *
    generalize s.drop f=t at *
    clear hA
    refine zu hI zi mixed [wu,wo] hX [0] (fun(u:Str)=>noSt u∧u.foldl xR []=G∧u.length≤1000000) (fun(u:Str)=>⟨[(0,.v (.one (.p (.str u))))],[],83,none⟩) (fun(u:Str)=>u.length) t (by kernel_rfl) (by kernel_rfl) ?_ ?_
    · exact⟨h3,h4.symm,ht⟩
    rintro u ⟨g1,g2,g3⟩ A hA
    refine zh (.br (I.ilt 0 (I.len (α:=UInt8) u)) (.need (I.inb 0 (I.len (α:=UInt8) u)) (.br (I.ieq (I.b2i (I.get (α:=UInt8) u 0 0)) 46) (.need (I.cutb 1 (I.len (α:=UInt8) u) (I.len (α:=UInt8) u)) (.need (A ⟨[(0,(.v (.one (.p (.str (I.cut (α:=UInt8) u 1 (I.len (α:=UInt8) u)))))))],[],83,none⟩) .qed)) (.code 2 [1,1,1,1,1,1,0,1,0] ⟨[(6,(.v (.one (.p (.int .i64 0))))),(5,(.v (.one (.p (.str ([]:Str)))))),(0,(.v (.one (.p (.str u)))))],[],83,none⟩))) (.code 2 [1,1,1,1,1,1,0,1,0] ⟨[(6,(.v (.one (.p (.int .i64 0))))),(5,(.v (.one (.p (.str ([]:Str)))))),(0,(.v (.one (.p (.str u)))))],[],83,none⟩)) (by kernel_rfl) ?_
    simp only [zn]
    have hgo:u.head?=some 46→_:=fun h=>hA (u.drop 1) ⟨fun c hc=>g1 c (List.mem_of_mem_drop hc),by rw [← zgV h];exact g2,by rw [List.length_drop];omega⟩ (by cases u with|nil=>cases h|cons a b=>simp)
    have hhd:0<u.length→((u.getD 0 0).toNat:Int)=46→u.head?=some 46:=fun h e=>by
      have e2:=(rE (u.getD 0 0) 46 (by decide)).1 e
      cases u with
      |nil=>cases h
      |cons a r=>exact congrArg some e2
    (repeat' (first|refine And.intro ?_ ?_|intro _))
    all_goals try(subst hI;(simp only [nrmA,nrmB,nrlB,reduceCtorEq] at *);first
      |done
      |with_reducible exact True.intro
      |omega
      |(rw [drop1];with_reducible exact hgo (hhd (by omega) ‹_›)))
    · have hu:u=[]∨u.head?≠some 46:=by
        subst hI
        simp only [nrmA,nrmB,nrlB,reduceCtorEq] at *
        right
        intro e
        refine absurd ?_ ‹¬ ((u.getD 0 0).toNat:Int)=46›
        cases u with
        |nil=>cases e
        |cons a b=>rw [show a=46 from Option.some.inj e];rfl
      have hG:G=u.map fS:=by
        rw [← g2,Tt u [] g1 (hu.elim (fun h=>.inr (by rw [h];simp)) .inr)]
        simp
      clear hA g2 hu
      refine zu hI zi mixed [wu,wo] hX [0,5,6] (fun(g:Nat × Str)=>match g with|(i,o)=>i≤u.length∧i≤40∧o=(u.take i).map fS) (fun(g:Nat × Str)=>match g with|(i,o)=>⟨[(0,.v (.one (.p (.str u)))),(5,.v (.one (.p (.str o)))),(6,.v (.one (.p (.int .i64 i))))],[],83,none⟩) (fun(g:Nat × Str)=>match g with|(i,o)=>u.length - i) (0,[]) (by kernel_rfl) (by kernel_rfl) ?_ ?_
      · exact⟨Nat.zero_le _,by omega,rfl⟩
      rintro⟨i,o⟩ ⟨h1,h2,h3⟩ A hA
      simp only at hA h1 h2 h3
      refine zh (let y0:=I.few (I.add (I.len (α:=UInt8) o) (I.len (α:=UInt8) ([95]:Str))) 1000000000;let y1:=I.inr Go.IntKind.i64 (I.add (Nat.cast i) 1);let y2:=I.b2i (I.get (α:=UInt8) u 0 (Nat.cast i));let y3:=I.inb (Nat.cast i) (I.len (α:=UInt8) u);let y4:=I.cut (α:=UInt8) u (Int.ofNat i) (I.add (Nat.cast i) 1);.br (I.ilt (Nat.cast i) (I.len (α:=UInt8) u)) (.br (I.ilt (Nat.cast i) 40) (.need y3 (.br (I.ieq y2 9) (.need y0 (.need y1 (.need (A ⟨[(0,(.v (.one (.p (.str u))))),(5,(.v (.one (.p (.str (I.app (α:=UInt8) o ([95]:Str))))))),(6,(.v (.one (.p (.int .i64 (I.add (Nat.cast i) 1))))))],[],83,none⟩) .qed))) (.need y3 (.need (I.hid (α:=(Prop)) True) (.br (I.bnot (I.hid (α:=Bool) (vk y2))) (.need y0 (.need y1 (.need (A ⟨[(0,(.v (.one (.p (.str u))))),(5,(.v (.one (.p (.str (I.app (α:=UInt8) o ([95]:Str))))))),(6,(.v (.one (.p (.int .i64 (I.add (Nat.cast i) 1))))))],[],83,none⟩) .qed))) (.need y3 (.br (I.ieq y2 34) (.need y0 (.need y1 (.need (A ⟨[(0,(.v (.one (.p (.str u))))),(5,(.v (.one (.p (.str (I.app (α:=UInt8) o ([95]:Str))))))),(6,(.v (.one (.p (.int .i64 (I.add (Nat.cast i) 1))))))],[],83,none⟩) .qed))) (.need y3 (.br (I.ieq y2 58) (.need y0 (.need y1 (.need (A ⟨[(0,(.v (.one (.p (.str u))))),(5,(.v (.one (.p (.str (I.app (α:=UInt8) o ([95]:Str))))))),(6,(.v (.one (.p (.int .i64 (I.add (Nat.cast i) 1))))))],[],83,none⟩) .qed))) (.need y1 (.need (I.cutb (Int.ofNat i) (I.add (Nat.cast i) 1) (I.len (α:=UInt8) u)) (.need (I.few (I.add (I.len (α:=UInt8) o) (I.len (α:=UInt8) y4)) 1000000000) (.need y1 (.need (A ⟨[(0,(.v (.one (.p (.str u))))),(5,(.v (.one (.p (.str (I.app (α:=UInt8) o y4)))))),(6,(.v (.one (.p (.int .i64 (I.add (Nat.cast i) 1))))))],[],83,none⟩) .qed)))))))))))))) (.br (I.seq o ([]:Str)) (.fin (.ret (.v (.one (.p (.str ([102,105,108,101]:Str)))))) []) (.fin (.ret (.v (.one (.p (.str o))))) []))) (.br (I.seq o ([]:Str)) (.fin (.ret (.v (.one (.p (.str ([102,105,108,101]:Str)))))) []) (.fin (.ret (.v (.one (.p (.str o))))) []))) (by kernel_rfl) ?_
      simp only [zn]
      subst hI
      simp only [nrmA,nrmB,nrlB,reduceCtorEq]
      have hs:i<u.length→(u.take (i+1)).map fS=o++[fS (u.getD i 0)]:=fun h=>by
        rw [List.take_succ_eq_append_getElem h,List.map_append,h3];simp [h]
      have hgo:i<u.length→i<40→_:=fun h k=>hA (i+1,o++[fS (u.getD i 0)]) ⟨by simp only;omega,by simp only;omega,(hs h).symm⟩ (by simp only;omega)
      have hcut:i<u.length→List.take (((i:Int)+1).toNat - i) (u.drop i)=[u.getD i 0]:=fun h=>by
        rw [show((i:Int)+1).toNat - i=1 by omega,List.drop_eq_getElem_cons h,show u.getD i 0=u[i] by simp [h]];rfl
      have hol:o.length≤i:=by rw [h3,List.length_map,List.length_take];omega
      have hend: ¬ (i<u.length∧i<40)→G.take 40=o:=fun h=>by
        rw [hG,h3,← List.map_take]
        by_cases k:i=40
        · rw [k]
        · rw [List.take_of_length_le (show u.length≤40 by omega),List.take_of_length_le (show u.length≤i by omega)]
      have l0:=(u.getD i 0).toNat_lt
      rw [zkX] at hgo
      simp only [Int.natCast_add,Int.natCast_one] at hgo
      generalize u.getD i 0=x at *
      (repeat' (first|refine And.intro ?_ ?_|intro _))<;>first|omega|exact True.intro|exact False.elim ‹False›|skip
      all_goals first
        |omega
        |(simp only [List.length_cons,List.length_nil];omega)
        |(rw [hcut (by omega)];simp only [List.length_cons,List.length_nil];omega)
        |(have h:=hgo (by omega) (by omega);(try rw [hcut (by omega)]);(repeat(first|rw [if_pos (by first|omega|assumption)] at h|rw [if_neg (by first|omega|assumption|simpa using ‹_=true›)] at h));with_reducible exact h)
        |(have h:=hend (by omega);rw [h] at hr;subst hr;first|rw [if_pos ‹o=[]›]|rw [if_neg ‹¬ o=[]›])
    · have hu:u=[]∨u.head?≠some 46:=by
        subst hI
        simp only [nrmA,nrmB,nrlB,reduceCtorEq] at *
        exact .inl (List.eq_nil_of_length_eq_zero (by omega))
      have hG:G=u.map fS:=by
        rw [← g2,Tt u [] g1 (hu.elim (fun h=>.inr (by rw [h];simp)) .inr)]
        simp
      clear hA g2 hu
      refine zu hI zi mixed [wu,wo] hX [0,5,6] (fun(g:Nat × Str)=>match g with|(i,o)=>i≤u.length∧i≤40∧o=(u.take i).map fS) (fun(g:Nat × Str)=>match g with|(i,o)=>⟨[(0,.v (.one (.p (.str u)))),(5,.v (.one (.p (.str o)))),(6,.v (.one (.p (.int .i64 i))))],[],83,none⟩) (fun(g:Nat × Str)=>match g with|(i,o)=>u.length - i) (0,[]) (by kernel_rfl) (by kernel_rfl) ?_ ?_
      · exact⟨Nat.zero_le _,by omega,rfl⟩
      rintro⟨i,o⟩ ⟨h1,h2,h3⟩ A hA
      simp only at hA h1 h2 h3
      refine zh (let y0:=I.few (I.add (I.len (α:=UInt8) o) (I.len (α:=UInt8) ([95]:Str))) 1000000000;let y1:=I.inr Go.IntKind.i64 (I.add (Nat.cast i) 1);let y2:=I.b2i (I.get (α:=UInt8) u 0 (Nat.cast i));let y3:=I.inb (Nat.cast i) (I.len (α:=UInt8) u);let y4:=I.cut (α:=UInt8) u (Int.ofNat i) (I.add (Nat.cast i) 1);.br (I.ilt (Nat.cast i) (I.len (α:=UInt8) u)) (.br (I.ilt (Nat.cast i) 40) (.need y3 (.br (I.ieq y2 9) (.need y0 (.need y1 (.need (A ⟨[(0,(.v (.one (.p (.str u))))),(5,(.v (.one (.p (.str (I.app (α:=UInt8) o ([95]:Str))))))),(6,(.v (.one (.p (.int .i64 (I.add (Nat.cast i) 1))))))],[],83,none⟩) .qed))) (.need y3 (.need (I.hid (α:=(Prop)) True) (.br (I.bnot (I.hid (α:=Bool) (vk y2))) (.need y0 (.need y1 (.need (A ⟨[(0,(.v (.one (.p (.str u))))),(5,(.v (.one (.p (.str (I.app (α:=UInt8) o ([95]:Str))))))),(6,(.v (.one (.p (.int .i64 (I.add (Nat.cast i) 1))))))],[],83,none⟩) .qed))) (.need y3 (.br (I.ieq y2 34) (.need y0 (.need y1 (.need (A ⟨[(0,(.v (.one (.p (.str u))))),(5,(.v (.one (.p (.str (I.app (α:=UInt8) o ([95]:Str))))))),(6,(.v (.one (.p (.int .i64 (I.add (Nat.cast i) 1))))))],[],83,none⟩) .qed))) (.need y3 (.br (I.ieq y2 58) (.need y0 (.need y1 (.need (A ⟨[(0,(.v (.one (.p (.str u))))),(5,(.v (.one (.p (.str (I.app (α:=UInt8) o ([95]:Str))))))),(6,(.v (.one (.p (.int .i64 (I.add (Nat.cast i) 1))))))],[],83,none⟩) .qed))) (.need y1 (.need (I.cutb (Int.ofNat i) (I.add (Nat.cast i) 1) (I.len (α:=UInt8) u)) (.need (I.few (I.add (I.len (α:=UInt8) o) (I.len (α:=UInt8) y4)) 1000000000) (.need y1 (.need (A ⟨[(0,(.v (.one (.p (.str u))))),(5,(.v (.one (.p (.str (I.app (α:=UInt8) o y4)))))),(6,(.v (.one (.p (.int .i64 (I.add (Nat.cast i) 1))))))],[],83,none⟩) .qed)))))))))))))) (.br (I.seq o ([]:Str)) (.fin (.ret (.v (.one (.p (.str ([102,105,108,101]:Str)))))) []) (.fin (.ret (.v (.one (.p (.str o))))) []))) (.br (I.seq o ([]:Str)) (.fin (.ret (.v (.one (.p (.str ([102,105,108,101]:Str)))))) []) (.fin (.ret (.v (.one (.p (.str o))))) []))) (by kernel_rfl) ?_
      simp only [zn]
      subst hI
      simp only [nrmA,nrmB,nrlB,reduceCtorEq]
      have hs:i<u.length→(u.take (i+1)).map fS=o++[fS (u.getD i 0)]:=fun h=>by
        rw [List.take_succ_eq_append_getElem h,List.map_append,h3];simp [h]
      have hgo:i<u.length→i<40→_:=fun h k=>hA (i+1,o++[fS (u.getD i 0)]) ⟨by simp only;omega,by simp only;omega,(hs h).symm⟩ (by simp only;omega)
      have hcut:i<u.length→List.take (((i:Int)+1).toNat - i) (u.drop i)=[u.getD i 0]:=fun h=>by
        rw [show((i:Int)+1).toNat - i=1 by omega,List.drop_eq_getElem_cons h,show u.getD i 0=u[i] by simp [h]];rfl
      have hol:o.length≤i:=by rw [h3,List.length_map,List.length_take];omega
      have hend: ¬ (i<u.length∧i<40)→G.take 40=o:=fun h=>by
        rw [hG,h3,← List.map_take]
        by_cases k:i=40
        · rw [k]
        · rw [List.take_of_length_le (show u.length≤40 by omega),List.take_of_length_le (show u.length≤i by omega)]
      have l0:=(u.getD i 0).toNat_lt
      rw [zkX] at hgo
      simp only [Int.natCast_add,Int.natCast_one] at hgo
      generalize u.getD i 0=x at *
      (repeat' (first|refine And.intro ?_ ?_|intro _))<;>first|omega|exact True.intro|exact False.elim ‹False›|skip
      all_goals first
        |omega
        |(simp only [List.length_cons,List.length_nil];omega)
        |(rw [hcut (by omega)];simp only [List.length_cons,List.length_nil];omega)
        |(have h:=hgo (by omega) (by omega);(try rw [hcut (by omega)]);(repeat(first|rw [if_pos (by first|omega|assumption)] at h|rw [if_neg (by first|omega|assumption|simpa using ‹_=true›)] at h));with_reducible exact h)
        |(have h:=hend (by omega);rw [h] at hr;subst hr;first|rw [if_pos ‹o=[]›]|rw [if_neg ‹¬ o=[]›])
def XO (I:Alg) (args:List D) (hp:List HO):Option CT:=match args,hp with
  |[.v (.one (.p (.str s)))],[]=>(fun(s:Str)=>(some (.one ⟨I.hid (s.length≤1000000),(.ret (.v (.one (.p (.str (I.hid ((vI s)))))))),[]⟩):Option CT)) s
  |_,_=>none
theorem zcj:zy Tryz.prog 43 (XO alg):=by
  intro args hp r h
  unfold XO at h
  split at h
  · cases h;exact fun hn=>zkb _ hn
  · cases h
def TD:Know Tryz.prog:=⟨43,XO,zcj⟩
def TB:Know Tryz.prog:=⟨43,fun I=>zA I (XO I),zf zcj⟩
end Go.Proofs.YtknaogelmckimaaGreatDoor
