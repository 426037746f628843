/- Texts of this proof, one behind the other: LnA FrmC FrmD FldP FrmE EvJ FrmF FrmG FrmH FrmI FrmS. -/
import Derived.Test.YtknaogelmckimaaDoorMc
set_option linter.all false
namespace Go.Proofs.YtknaogelmckimaaDoor
open Go Go.Sep Go.Ab
set_option maxRecDepth 100000
def zfK:Cfg:= { sl:=[⟨106,0,.byte,some 5⟩]}
theorem zgm:Spc Tryd.prog 45 [] [] (.ret (.v (.one (.ptr 0 0)))) [.pack [.obj 106 [(.row 1),(.p (.bool false)),(.p (.int .i64 0))],.row .byte 5 ([])]]:=by
  refine spcG zl mixed Tryd.func45 (by kernel_rfl) { zfK with keep:=some [0]} [] (by kernel_rfl) ?_
  intro I X hI hX
  refine zi (.fin (.ret (.v (.one (.ptr 0 0)))) [(.pack [(.obj 106 [(.row 1),(.p (.bool Bool.false)),(.p (.int .i64 0))]),(.row .byte 5 ([]:Str))])]) (by kernel_rfl) ?_
  simp only [zq]
  trivial
def Yx (I:Alg) (args:List D) (hp:List HO):Option CT:=match args,hp with
  |[],[]=>(fun(_:Unit)=>(some (.one ⟨I.hid (True),(.ret (.v (.one (.ptr 0 0)))),[.pack [.obj 106 [(.row 1),(.p (.bool false)),(.p (.int .i64 0))],.row .byte 5 (I.hid ([]))]]⟩):Option CT)) ()
  |_,_=>none
theorem QI:zy Tryd.prog 45 (Yx alg):=by
  intro args hp r h
  unfold Yx at h
  split at h
  · cases h;exact fun hn=>zgm
  · cases h
def QH:Know Tryd.prog:=⟨45,Yx,QI⟩
def QG:Know Tryd.prog:=⟨45,fun I=>zC I (Yx I),zf QI⟩
theorem ze8 (b:Str) (cr:Bool) (code c:Int):Spc Tryd.prog 61 [.v (.one (.ptr 0 0)),.v (.one (.p (.int .i64 c)))] [.pack [.obj 106 [(.row 1),(.p (.bool cr)),(.p (.int .i64 code))],.row .byte 5 b]] (.ret (.tup [(.one (.p (.str ([])))),(.one (.p (.bool false))),(.one (.p (.int .i64 c)))])) [.pack [.obj 106 [(.row 1),(.p (.bool cr)),(.p (.int .i64 c))],.row .byte 5 b]]:=by
  refine spcG zl mixed Tryd.func61 (by kernel_rfl) { zfK with keep:=some [0,1,4,5,6]} [] (by kernel_rfl) ?_
  intro I X hI hX
  refine zi (.fin (.ret (.tup [(.one (.p (.str ([]:Str)))),(.one (.p (.bool Bool.false))),(.one (.p (.int .i64 c)))])) [(.pack [(.obj 106 [(.row 1),(.p (.bool cr)),(.p (.int .i64 c))]),(.row .byte 5 b)])]) (by kernel_rfl) ?_
  simp only [zq]
  subst hI
  simp only [nrmA,nrmB,nrlB,reduceCtorEq,HO.pack.injEq,HO.obj.injEq]
  try trivial
def qM (I:Alg) (args:List D) (hp:List HO):Option CT:=match args,hp with
  |[.v (.one (.ptr 0 0)),.v (.one (.p (.int .i64 c)))],[.pack [.obj 106 [(.row 1),(.p (.bool cr)),(.p (.int .i64 code))],.row .byte 5 b]]=>(fun(b:Str) (cr:Bool) (code c:Int)=>(some (.one ⟨I.hid (True),(.ret (.tup [(.one (.p (.str (I.hid ([]))))),(.one (.p (.bool false))),(.one (.p (.int .i64 c)))])),[.pack [.obj 106 [(.row 1),(.p (.bool cr)),(.p (.int .i64 c))],.row .byte 5 b]]⟩):Option CT)) b cr code c
  |_,_=>none
theorem Uo:zy Tryd.prog 61 (qM alg):=by
  intro args hp r h
  unfold qM at h
  split at h
  · cases h;exact fun hn=>ze8 _ _ _ _
  · cases h
def zb0:Know Tryd.prog:=⟨61,qM,Uo⟩
def zbZ:Know Tryd.prog:=⟨61,fun I=>zC I (qM I),zf Uo⟩
set_option maxHeartbeats 4000000 in
theorem ze7 (b:Str) (cr:Bool) (code k:Int) (hneed:0≤k∧k≤255∧b.length≤1000000):Spc Tryd.prog 46 [.v (.one (.ptr 0 0)),.v (.one (.p (.int .u8 k)))] [.pack [.obj 106 [(.row 1),(.p (.bool cr)),(.p (.int .i64 code))],.row .byte 5 b]] (.ret (.tup [(.one (.p (.str ((lnF ⟨b,cr,code⟩ (UInt8.ofNat k.toNat)).2.1)))),(.one (.p (.bool ((lnF ⟨b,cr,code⟩ (UInt8.ofNat k.toNat)).2.2.1)))),(.one (.p (.int .i64 ((lnF ⟨b,cr,code⟩ (UInt8.ofNat k.toNat)).2.2.2))))])) [.pack [.obj 106 [(.row 1),(.p (.bool ((lnF ⟨b,cr,code⟩ (UInt8.ofNat k.toNat)).1.cr))),(.p (.int .i64 ((lnF ⟨b,cr,code⟩ (UInt8.ofNat k.toNat)).1.code)))],.row .byte 5 ((lnF ⟨b,cr,code⟩ (UInt8.ofNat k.toNat)).1.b)]]:=by
  obtain⟨hk0,hk1,hbl⟩:=hneed
  have hkk:((UInt8.ofNat k.toNat).toNat:Int)=k:=by rw [UInt8.toNat_ofNat',Nat.mod_eq_of_lt (by omega)];omega
  generalize hr:lnF ⟨b,cr,code⟩ (UInt8.ofNat k.toNat)=r
  have h10:UInt8.ofNat k.toNat=10↔k=10:=⟨fun h=>by rw [h] at hkk;exact hkk.symm,fun h=>by subst h;rfl⟩
  have h13:UInt8.ofNat k.toNat=13↔k=13:=⟨fun h=>by rw [h] at hkk;exact hkk.symm,fun h=>by subst h;rfl⟩
  unfold lnF zfX at hr
  rw [hkk] at hr
  simp only [h10,h13] at hr
  obtain⟨⟨rb,rc,rcode⟩,rt,ro,re⟩:=r
  refine spcG zl mixed Tryd.func46 (by kernel_rfl) { zfK with nr:=[8],keep:=some [0,1,4,5,6,7]} [xZ,tN,zb0,zbZ] (by kernel_rfl) ?_
  intro I X hI hX
  refine zi (let y0:HO:=.pack [(.obj 106 [(.row 1),(.p (.bool cr)),(.p (.int .i64 code))]),(.row .byte 5 (I.app (α:=UInt8) b ([(I.i2b k)]:Str)))];let y1:HO:=.pack [(.obj 106 [(.row 1),(.p (.bool Bool.false)),(.p (.int .i64 code))]),(.row .byte 5 ([]:Str))];let y2:=I.few (I.add (I.len (α:=UInt8) b) (I.len (α:=UInt8) ([(I.i2b k)]:Str))) 140737488355328;let y3:HO:=.pack [(.obj 106 [(.row 1),(.p (.bool Bool.true)),(.p (.int .i64 code))]),(.row .byte 5 b)];let y4:HO:=.pack [(.obj 106 [(.row 1),(.p (.bool cr)),(.p (.int .i64 3))]),(.row .byte 5 b)];let y5:HO:=.pack [(.obj 106 [(.row 1),(.p (.bool cr)),(.p (.int .i64 4))]),(.row .byte 5 b)];let y6:HO:=.pack [(.obj 106 [(.row 1),(.p (.bool cr)),(.p (.int .i64 2))]),(.row .byte 5 b)];let y7:=I.bnot (I.hid (α:=Bool) (vK k));let y8:=I.ieq (I.len (α:=UInt8) b) 200;.br (I.bnot (I.ieq code 0)) (.fin (.ret (.tup [(.one (.p (.str ([]:Str)))),(.one (.p (.bool Bool.false))),(.one (.p (.int .i64 code)))])) [(.pack [(.obj 106 [(.row 1),(.p (.bool cr)),(.p (.int .i64 code))]),(.row .byte 5 b)])]) (.br cr (.br (I.bnot (I.ieq k 10)) (.need (I.hid (α:=(Prop)) True) (.fin (.ret (.tup [(.one (.p (.str (I.hid (α:=Str) ([]:Str))))),(.one (.p (.bool Bool.false))),(.one (.p (.int .i64 2)))])) [y6])) (.br (I.bnot cr) (.br (I.ieq k 10) (.need (I.hid (α:=(Prop)) True) (.fin (.ret (.tup [(.one (.p (.str (I.hid (α:=Str) ([]:Str))))),(.one (.p (.bool Bool.false))),(.one (.p (.int .i64 2)))])) [y6])) (.br cr (.fin (.ret (.tup [(.one (.p (.str b))),(.one (.p (.bool Bool.true))),(.one (.p (.int .i64 0)))])) [y1]) (.br (I.ieq k 13) (.fin (.ret (.tup [(.one (.p (.str ([]:Str)))),(.one (.p (.bool Bool.false))),(.one (.p (.int .i64 0)))])) [y3]) (.need (I.hid (α:=(Prop)) True) (.br y7 (.need (I.hid (α:=(Prop)) True) (.fin (.ret (.tup [(.one (.p (.str (I.hid (α:=Str) ([]:Str))))),(.one (.p (.bool Bool.false))),(.one (.p (.int .i64 3)))])) [y4])) (.br y8 (.need (I.hid (α:=(Prop)) True) (.fin (.ret (.tup [(.one (.p (.str (I.hid (α:=Str) ([]:Str))))),(.one (.p (.bool Bool.false))),(.one (.p (.int .i64 4)))])) [y5])) (.need (I.inr Go.IntKind.u8 k) (.need y2 (.fin (.ret (.tup [(.one (.p (.str ([]:Str)))),(.one (.p (.bool Bool.false))),(.one (.p (.int .i64 0)))])) [y0]))))))))) (.br cr (.fin (.ret (.tup [(.one (.p (.str b))),(.one (.p (.bool Bool.true))),(.one (.p (.int .i64 0)))])) [y1]) (.br (I.ieq k 13) (.fin (.ret (.tup [(.one (.p (.str ([]:Str)))),(.one (.p (.bool Bool.false))),(.one (.p (.int .i64 0)))])) [y3]) (.need (I.hid (α:=(Prop)) True) (.br y7 (.need (I.hid (α:=(Prop)) True) (.fin (.ret (.tup [(.one (.p (.str (I.hid (α:=Str) ([]:Str))))),(.one (.p (.bool Bool.false))),(.one (.p (.int .i64 3)))])) [y4])) (.br y8 (.need (I.hid (α:=(Prop)) True) (.fin (.ret (.tup [(.one (.p (.str (I.hid (α:=Str) ([]:Str))))),(.one (.p (.bool Bool.false))),(.one (.p (.int .i64 4)))])) [y5])) (.need (I.inr Go.IntKind.u8 k) (.need y2 (.fin (.ret (.tup [(.one (.p (.str ([]:Str)))),(.one (.p (.bool Bool.false))),(.one (.p (.int .i64 0)))])) [y0])))))))))) (.br (I.bnot cr) (.br (I.ieq k 10) (.need (I.hid (α:=(Prop)) True) (.fin (.ret (.tup [(.one (.p (.str (I.hid (α:=Str) ([]:Str))))),(.one (.p (.bool Bool.false))),(.one (.p (.int .i64 2)))])) [y6])) (.br cr (.fin (.ret (.tup [(.one (.p (.str b))),(.one (.p (.bool Bool.true))),(.one (.p (.int .i64 0)))])) [y1]) (.br (I.ieq k 13) (.fin (.ret (.tup [(.one (.p (.str ([]:Str)))),(.one (.p (.bool Bool.false))),(.one (.p (.int .i64 0)))])) [y3]) (.need (I.hid (α:=(Prop)) True) (.br y7 (.need (I.hid (α:=(Prop)) True) (.fin (.ret (.tup [(.one (.p (.str (I.hid (α:=Str) ([]:Str))))),(.one (.p (.bool Bool.false))),(.one (.p (.int .i64 3)))])) [y4])) (.br y8 (.need (I.hid (α:=(Prop)) True) (.fin (.ret (.tup [(.one (.p (.str (I.hid (α:=Str) ([]:Str))))),(.one (.p (.bool Bool.false))),(.one (.p (.int .i64 4)))])) [y5])) (.need (I.inr Go.IntKind.u8 k) (.need y2 (.fin (.ret (.tup [(.one (.p (.str ([]:Str)))),(.one (.p (.bool Bool.false))),(.one (.p (.int .i64 0)))])) [y0]))))))))) (.br cr (.fin (.ret (.tup [(.one (.p (.str b))),(.one (.p (.bool Bool.true))),(.one (.p (.int .i64 0)))])) [y1]) (.br (I.ieq k 13) (.fin (.ret (.tup [(.one (.p (.str ([]:Str)))),(.one (.p (.bool Bool.false))),(.one (.p (.int .i64 0)))])) [y3]) (.need (I.hid (α:=(Prop)) True) (.br y7 (.need (I.hid (α:=(Prop)) True) (.fin (.ret (.tup [(.one (.p (.str (I.hid (α:=Str) ([]:Str))))),(.one (.p (.bool Bool.false))),(.one (.p (.int .i64 3)))])) [y4])) (.br y8 (.need (I.hid (α:=(Prop)) True) (.fin (.ret (.tup [(.one (.p (.str (I.hid (α:=Str) ([]:Str))))),(.one (.p (.bool Bool.false))),(.one (.p (.int .i64 4)))])) [y5])) (.need (I.inr Go.IntKind.u8 k) (.need y2 (.fin (.ret (.tup [(.one (.p (.str ([]:Str)))),(.one (.p (.bool Bool.false))),(.one (.p (.int .i64 0)))])) [y0]))))))))))) (by kernel_rfl) ?_
  simp only [zq]
  subst hI
  simp only [nrmA,nrmB,nrlB,reduceCtorEq,HO.pack.injEq,HO.obj.injEq]
  generalize UInt8.ofNat k.toNat=c at *
  cases cr
  all_goals simp only [Bool.false_eq_true,if_false,if_true] at hr
  all_goals(repeat' (first|refine And.intro ?_ ?_|intro _))<;>first|omega|exact True.intro|exact False.elim ‹False›|skip
  all_goals first
    |omega
    |(exfalso;simp at *;done)
    |(((repeat(first|rewrite [if_pos (by first|omega|assumption|(simp only [*,or_self,or_true,true_or,or_false,false_or,not_true_eq_false,not_false_eq_true,Bool.false_eq_true,Bool.true_eq_false,and_self,and_true,true_and];done)|(simp only [*];omega)|(simp [*];done)|(simp [*];omega))] at hr|rewrite [if_neg (by first|omega|assumption|(simp only [*,or_self,or_true,true_or,or_false,false_or,not_true_eq_false,not_false_eq_true,Bool.false_eq_true,Bool.true_eq_false,and_self,and_true,true_and];done)|(simp only [*];omega)|(simp [*];done)|(simp [*];omega))] at hr)));cases hr;first|rfl|done|with_reducible assumption|exact⟨rfl,rfl,rfl⟩|(simp;done)|(simp;omega))
def qL (I:Alg) (args:List D) (hp:List HO):Option CT:=match args,hp with
  |[.v (.one (.ptr 0 0)),.v (.one (.p (.int .u8 k)))],[.pack [.obj 106 [(.row 1),(.p (.bool cr)),(.p (.int .i64 code))],.row .byte 5 b]]=>(fun(b:Str) (cr:Bool) (code k:Int)=>(some (.one ⟨I.hid (0≤k∧k≤255∧b.length≤1000000),(.ret (.tup [(.one (.p (.str (I.hid ((lnF ⟨b,cr,code⟩ (UInt8.ofNat k.toNat)).2.1))))),(.one (.p (.bool (I.hid ((lnF ⟨b,cr,code⟩ (UInt8.ofNat k.toNat)).2.2.1))))),(.one (.p (.int .i64 (I.hid ((lnF ⟨b,cr,code⟩ (UInt8.ofNat k.toNat)).2.2.2)))))])),[.pack [.obj 106 [(.row 1),(.p (.bool (I.hid ((lnF ⟨b,cr,code⟩ (UInt8.ofNat k.toNat)).1.cr)))),(.p (.int .i64 (I.hid ((lnF ⟨b,cr,code⟩ (UInt8.ofNat k.toNat)).1.code))))],.row .byte 5 (I.hid ((lnF ⟨b,cr,code⟩ (UInt8.ofNat k.toNat)).1.b))]]⟩):Option CT)) b cr code k
  |_,_=>none
theorem Un:zy Tryd.prog 46 (qL alg):=by
  intro args hp r h
  unfold qL at h
  split at h
  · cases h;exact fun hn=>ze7 _ _ _ _ hn
  · cases h
def Um:Know Tryd.prog:=⟨46,qL,Un⟩
def Ul:Know Tryd.prog:=⟨46,fun I=>zC I (qL I),zf Un⟩
end Go.Proofs.YtknaogelmckimaaDoor
namespace Go.Proofs.YtknaogelmckimaaDoor
open Go Go.Sep Go.Ab
set_option maxRecDepth 100000
def cfgF:Cfg:= { sl:=[⟨106,0,.byte,some 5⟩,⟨84,0,.byte,some 5⟩,⟨84,1,.int,some 3⟩,⟨55,3,.fld,some 67⟩,⟨55,7,.evt,some 63⟩]}
def zM (f:Fm):Prop:=f.out.length≤10000000
def fm9 (f:Fm):Prop:=f.out.length≤9000000
theorem u8k {k:Int} (h0:0≤k) (h1:k≤255) (n:Nat) (hn:n<256):(UInt8.ofNat k.toNat=UInt8.ofNat n)=(k=n):=by
  rw [← UInt8.toNat_inj,UInt8.toNat_ofNat',UInt8.toNat_ofNat',Nat.mod_eq_of_lt hn,Nat.mod_eq_of_lt (by omega)]
  exact propext ⟨fun h=>by omega,fun h=>by omega⟩
theorem zfr (m:Str) (hd:Int) (bs:List Int) (p:Int) (fs:List Fld) (pa sk co:Int) (out:List Evt) (k:Int) (ea eb:Str) (ei:Int) (ef:List Fld) (en:Int) (ebs ex ey ez et:Str) (ec:Int) (hneed:zM ⟨m,hd,bs,p,none,fs,pa,sk,co,out⟩):Spc Tryd.prog 60 [.v (.one (.ptr 0 0)),.v (.agg [(.p (.int .i64 k)),(.p (.str ea)),(.p (.str eb)),(.p (.int .i64 ei)),(.p (.list .fld ef)),(.p (.int .i64 en)),(.p (.list .byte ebs)),(.p (.str ex)),(.p (.str ey)),(.p (.str ez)),(.p (.nl et)),(.p (.int .i64 ec))])] [.abs (.fm ⟨m,hd,bs,p,none,fs,pa,sk,co,out⟩)] (.ret (.tup [])) [.abs (.fm ⟨m,hd,bs,p,none,fs,pa,sk,co,(out++[⟨k,⟨ea,eb,ei,ef,en⟩,ebs,⟨ex,ey,ez,et⟩,ec⟩])⟩)]:=by
  unfold zM at hneed
  simp only at hneed
  refine spcG zl mixed Tryd.func60 (by kernel_rfl) { cfgF with keep:=some [0,1,3]} [] (by kernel_rfl) ?_
  intro I X hI hX
  refine zi (let y0:=I.few (I.add (I.len (α:=Go.Ab.Evt) out) (I.len (α:=Go.Ab.Evt) ([(Go.Ab.Evt.mk k (Hd.mk ea eb ei ef en) ebs (Go.Ab.Prt.mk ex ey ez et) ec)]:List Go.Ab.Evt))) 100000000;.both (.need y0 (.fin (.ret (.tup [])) [(.abs (.fm (Go.Ab.Fm.mk m hd bs p (Option.none) fs pa sk co (I.app (α:=Go.Ab.Evt) out ([(Go.Ab.Evt.mk k (Hd.mk ea eb ei ef en) ebs (Go.Ab.Prt.mk ex ey ez et) ec)]:List Go.Ab.Evt)))))])) (.need y0 (.fin (.ret (.tup [])) [(.abs (.fm (Go.Ab.Fm.mk m hd bs p (Option.none) fs pa sk co (I.app (α:=Go.Ab.Evt) out ([(Go.Ab.Evt.mk k (Hd.mk ea eb ei ef en) ebs (Go.Ab.Prt.mk ex ey ez et) ec)]:List Go.Ab.Evt)))))]))) (by kernel_rfl) ?_
  simp only [zq]
  subst hI
  simp only [nrmA,nrmB,nrlB,reduceCtorEq,HO.abs.injEq,Gh.fm.injEq,Fm.mk.injEq]
  (repeat' (first|refine And.intro ?_ ?_|intro _))<;>first|omega|exact True.intro|exact False.elim ‹False›|skip
  all_goals first
    |omega
    |rfl
    |with_reducible assumption
    |(simp only [List.length_cons,List.length_nil];omega)
    |(unfold zM;simp only;omega)
    |(simp;done)
def qU (I:Alg) (args:List D) (hp:List HO):Option CT:=match args,hp with
  |[.v (.one (.ptr 0 0)),.v (.agg [(.p (.int .i64 k)),(.p (.str ea)),(.p (.str eb)),(.p (.int .i64 ei)),(.p (.list .fld ef)),(.p (.int .i64 en)),(.p (.list .byte ebs)),(.p (.str ex)),(.p (.str ey)),(.p (.str ez)),(.p (.nl et)),(.p (.int .i64 ec))])],[.abs (.fm ⟨m,hd,bs,p,none,fs,pa,sk,co,out⟩)]=>(fun(m:Str) (hd:Int) (bs:List Int) (p:Int) (fs:List Fld) (pa sk co:Int) (out:List Evt) (k:Int) (ea eb:Str) (ei:Int) (ef:List Fld) (en:Int) (ebs ex ey ez et:Str) (ec:Int)=>(some (.one ⟨I.hid (zM ⟨m,hd,bs,p,none,fs,pa,sk,co,out⟩),(.ret (.tup [])),[.abs (.fm ⟨m,hd,bs,p,none,fs,pa,sk,co,(I.hid (out++[⟨k,⟨ea,eb,ei,ef,en⟩,ebs,⟨ex,ey,ez,et⟩,ec⟩]))⟩)]⟩):Option CT)) m hd bs p fs pa sk co out k ea eb ei ef en ebs ex ey ez et ec
  |_,_=>none
theorem U0:zy Tryd.prog 60 (qU alg):=by
  intro args hp r h
  unfold qU at h
  split at h
  · cases h;exact fun hn=>zfr _ _ _ _ _ _ _ _ _ _ _ _ _ _ _ _ _ _ _ _ _ hn
  · cases h
def yX:Know Tryd.prog:=⟨60,qU,U0⟩
def yV:Know Tryd.prog:=⟨60,fun I=>zC I (qU I),zf U0⟩
theorem zfq (m:Str) (hd:Int) (bs:List Int) (p:Int) (ln:Ln) (fs:List Fld) (pa sk co:Int) (out:List Evt) (k:Int) (ea eb:Str) (ei:Int) (ef:List Fld) (en:Int) (ebs ex ey ez et:Str) (ec:Int) (hneed:zM ⟨m,hd,bs,p,some ln,fs,pa,sk,co,out⟩):Spc Tryd.prog 60 [.v (.one (.ptr 0 0)),.v (.agg [(.p (.int .i64 k)),(.p (.str ea)),(.p (.str eb)),(.p (.int .i64 ei)),(.p (.list .fld ef)),(.p (.int .i64 en)),(.p (.list .byte ebs)),(.p (.str ex)),(.p (.str ey)),(.p (.str ez)),(.p (.nl et)),(.p (.int .i64 ec))])] [.abs (.fm ⟨m,hd,bs,p,some ln,fs,pa,sk,co,out⟩)] (.ret (.tup [])) [.abs (.fm ⟨m,hd,bs,p,some ln,fs,pa,sk,co,(out++[⟨k,⟨ea,eb,ei,ef,en⟩,ebs,⟨ex,ey,ez,et⟩,ec⟩])⟩)]:=by
  unfold zM at hneed
  simp only at hneed
  refine spcG zl mixed Tryd.func60 (by kernel_rfl) { cfgF with keep:=some [0,1,3]} [yX,yV] (by kernel_rfl) ?_
  intro I X hI hX
  refine zi (let y0:=I.few (I.add (I.len (α:=Go.Ab.Evt) out) (I.len (α:=Go.Ab.Evt) ([(Go.Ab.Evt.mk k (Hd.mk ea eb ei ef en) ebs (Go.Ab.Prt.mk ex ey ez et) ec)]:List Go.Ab.Evt))) 100000000;.both (.need y0 (.fin (.ret (.tup [])) [(.abs (.fm (Go.Ab.Fm.mk m hd bs p (Option.some (Go.Ab.Ln.mk (Go.Ab.Ln.b ln) (Go.Ab.Ln.cr ln) (Go.Ab.Ln.code ln))) fs pa sk co (I.app (α:=Go.Ab.Evt) out ([(Go.Ab.Evt.mk k (Hd.mk ea eb ei ef en) ebs (Go.Ab.Prt.mk ex ey ez et) ec)]:List Go.Ab.Evt)))))])) (.need y0 (.fin (.ret (.tup [])) [(.abs (.fm (Go.Ab.Fm.mk m hd bs p (Option.some (Go.Ab.Ln.mk (Go.Ab.Ln.b ln) (Go.Ab.Ln.cr ln) (Go.Ab.Ln.code ln))) fs pa sk co (I.app (α:=Go.Ab.Evt) out ([(Go.Ab.Evt.mk k (Hd.mk ea eb ei ef en) ebs (Go.Ab.Prt.mk ex ey ez et) ec)]:List Go.Ab.Evt)))))]))) (by kernel_rfl) ?_
  simp only [zq]
  subst hI
  simp only [nrmA,nrmB,nrlB,reduceCtorEq,HO.abs.injEq,Gh.fm.injEq,Fm.mk.injEq]
  (repeat' (first|refine And.intro ?_ ?_|intro _))<;>first|omega|exact True.intro|exact False.elim ‹False›|skip
  all_goals first
    |omega
    |rfl
    |with_reducible assumption
    |(simp only [List.length_cons,List.length_nil];omega)
    |(unfold zM;simp only;omega)
    |(simp;done)
def qR (I:Alg) (args:List D) (hp:List HO):Option CT:=match args,hp with
  |[.v (.one (.ptr 0 0)),.v (.agg [(.p (.int .i64 k)),(.p (.str ea)),(.p (.str eb)),(.p (.int .i64 ei)),(.p (.list .fld ef)),(.p (.int .i64 en)),(.p (.list .byte ebs)),(.p (.str ex)),(.p (.str ey)),(.p (.str ez)),(.p (.nl et)),(.p (.int .i64 ec))])],[.abs (.fm ⟨m,hd,bs,p,some ln,fs,pa,sk,co,out⟩)]=>(fun(m:Str) (hd:Int) (bs:List Int) (p:Int) (ln:Ln) (fs:List Fld) (pa sk co:Int) (out:List Evt) (k:Int) (ea eb:Str) (ei:Int) (ef:List Fld) (en:Int) (ebs ex ey ez et:Str) (ec:Int)=>(some (.one ⟨I.hid (zM ⟨m,hd,bs,p,some ln,fs,pa,sk,co,out⟩),(.ret (.tup [])),[.abs (.fm ⟨m,hd,bs,p,some ln,fs,pa,sk,co,(I.hid (out++[⟨k,⟨ea,eb,ei,ef,en⟩,ebs,⟨ex,ey,ez,et⟩,ec⟩]))⟩)]⟩):Option CT)) m hd bs p ln fs pa sk co out k ea eb ei ef en ebs ex ey ez et ec
  |_,_=>none
theorem UZ:zy Tryd.prog 60 (qR alg):=by
  intro args hp r h
  unfold qR at h
  split at h
  · cases h;exact fun hn=>zfq _ _ _ _ _ _ _ _ _ _ _ _ _ _ _ _ _ _ _ _ _ _ hn
  · cases h
def xJ:Know Tryd.prog:=⟨60,qR,UZ⟩
def xI:Know Tryd.prog:=⟨60,fun I=>zC I (qR I),zf UZ⟩
theorem Q5 (m:Str) (hd:Int) (bs:List Int) (p:Int) (fs:List Fld) (pa sk co:Int) (out:List Evt) (c:Int) (hneed:zM ⟨m,hd,bs,p,none,fs,pa,sk,co,out⟩):Spc Tryd.prog 44 [.v (.one (.ptr 0 0)),.v (.one (.p (.int .i64 c)))] [.abs (.fm ⟨m,hd,bs,p,none,fs,pa,sk,co,out⟩)] (.ret (.tup [])) [.abs (.fm ((zG ⟨m,hd,bs,p,none,fs,pa,sk,co,out⟩ c)))]:=by
  unfold zM at hneed
  simp only at hneed
  refine spcG zl mixed Tryd.func44 (by kernel_rfl) { cfgF with keep:=some [0,1]} [yX,yV,xJ,xI] (by kernel_rfl) ?_
  intro I X hI hX
  refine zi (.need (I.hid (α:=(Prop)) (zM (Go.Ab.Fm.mk m hd bs (8:Int) (Option.none) fs pa sk c out))) (.fin (.ret (.tup [])) [(.abs (.fm (Go.Ab.Fm.mk m hd bs (8:Int) (Option.none) fs pa sk c (I.hid (α:=(List Go.Ab.Evt)) (HAppend.hAppend out ([(Go.Ab.Evt.mk (4:Int) (Hd.mk ([]:Str) ([]:Str) (0:Int) ([]:List Fld) (0:Int)) ([]:Str) (Go.Ab.Prt.mk ([]:Str) ([]:Str) ([]:Str) ([]:Str)) c)]:List Go.Ab.Evt))))))])) (by kernel_rfl) ?_
  simp only [zq]
  subst hI
  simp only [nrmA,nrmB,nrlB,reduceCtorEq,HO.abs.injEq,Gh.fm.injEq,Fm.mk.injEq]
  (repeat' (first|refine And.intro ?_ ?_|intro _))<;>first|omega|exact True.intro|exact False.elim ‹False›|skip
  all_goals first
    |omega
    |rfl
    |with_reducible assumption
    |(simp only [List.length_cons,List.length_nil];omega)
    |(unfold zM;simp only;omega)
    |(simp;done)
def sU (I:Alg) (args:List D) (hp:List HO):Option CT:=match args,hp with
  |[.v (.one (.ptr 0 0)),.v (.one (.p (.int .i64 c)))],[.abs (.fm ⟨m,hd,bs,p,none,fs,pa,sk,co,out⟩)]=>(fun(m:Str) (hd:Int) (bs:List Int) (p:Int) (fs:List Fld) (pa sk co:Int) (out:List Evt) (c:Int)=>(some (.one ⟨I.hid (zM ⟨m,hd,bs,p,none,fs,pa,sk,co,out⟩),(.ret (.tup [])),[.abs (.fm (I.hid ((zG ⟨m,hd,bs,p,none,fs,pa,sk,co,out⟩ c))))]⟩):Option CT)) m hd bs p fs pa sk co out c
  |_,_=>none
theorem WE:zy Tryd.prog 44 (sU alg):=by
  intro args hp r h
  unfold sU at h
  split at h
  · cases h;exact fun hn=>Q5 _ _ _ _ _ _ _ _ _ _ hn
  · cases h
def za7:Know Tryd.prog:=⟨44,sU,WE⟩
def za6:Know Tryd.prog:=⟨44,fun I=>zC I (sU I),zf WE⟩
theorem zdR (m:Str) (hd:Int) (bs:List Int) (p:Int) (ln:Ln) (fs:List Fld) (pa sk co:Int) (out:List Evt) (c:Int) (hneed:zM ⟨m,hd,bs,p,some ln,fs,pa,sk,co,out⟩):Spc Tryd.prog 44 [.v (.one (.ptr 0 0)),.v (.one (.p (.int .i64 c)))] [.abs (.fm ⟨m,hd,bs,p,some ln,fs,pa,sk,co,out⟩)] (.ret (.tup [])) [.abs (.fm ((zG ⟨m,hd,bs,p,some ln,fs,pa,sk,co,out⟩ c)))]:=by
  unfold zM at hneed
  simp only at hneed
  refine spcG zl mixed Tryd.func44 (by kernel_rfl) { cfgF with keep:=some [0,1]} [yX,yV,xJ,xI,za7,za6] (by kernel_rfl) ?_
  intro I X hI hX
  refine zi (.need (I.hid (α:=(Prop)) (zM (Go.Ab.Fm.mk m hd bs (8:Int) (Option.some (Go.Ab.Ln.mk (Go.Ab.Ln.b ln) (Go.Ab.Ln.cr ln) (Go.Ab.Ln.code ln))) fs pa sk c out))) (.fin (.ret (.tup [])) [(.abs (.fm (Go.Ab.Fm.mk m hd bs (8:Int) (Option.some (Go.Ab.Ln.mk (Go.Ab.Ln.b ln) (Go.Ab.Ln.cr ln) (Go.Ab.Ln.code ln))) fs pa sk c (I.hid (α:=(List Go.Ab.Evt)) (HAppend.hAppend out ([(Go.Ab.Evt.mk (4:Int) (Hd.mk ([]:Str) ([]:Str) (0:Int) ([]:List Fld) (0:Int)) ([]:Str) (Go.Ab.Prt.mk ([]:Str) ([]:Str) ([]:Str) ([]:Str)) c)]:List Go.Ab.Evt))))))])) (by kernel_rfl) ?_
  simp only [zq]
  subst hI
  simp only [nrmA,nrmB,nrlB,reduceCtorEq,HO.abs.injEq,Gh.fm.injEq,Fm.mk.injEq]
  (repeat' (first|refine And.intro ?_ ?_|intro _))<;>first|omega|exact True.intro|exact False.elim ‹False›|skip
  all_goals first
    |omega
    |rfl
    |with_reducible assumption
    |(simp only [List.length_cons,List.length_nil];omega)
    |(unfold zM;simp only;omega)
    |(simp;done)
theorem zfx (f:Fm) (c:Int) (hneed:zM f):Spc Tryd.prog 44 [.v (.one (.ptr 0 0)),.v (.one (.p (.int .i64 c)))] [.abs (.fm f)] (.ret (.tup [])) [.abs (.fm ((zG f c)))]:=by
  obtain⟨m,hd,bs,p,ln,fs,pa,sk,co,out⟩:=f
  cases ln with
  |none=>exact Q5 m hd bs p fs pa sk co out c hneed
  |some ln=>exact zdR m hd bs p ln fs pa sk co out c hneed
def qZ (I:Alg) (args:List D) (hp:List HO):Option CT:=match args,hp with
  |[.v (.one (.ptr 0 0)),.v (.one (.p (.int .i64 c)))],[.abs (.fm f)]=>(fun(f:Fm) (c:Int)=>(some (.one ⟨I.hid (zM f),(.ret (.tup [])),[.abs (.fm (I.hid ((zG f c))))]⟩):Option CT)) f c
  |_,_=>none
theorem U7:zy Tryd.prog 44 (qZ alg):=by
  intro args hp r h
  unfold qZ at h
  split at h
  · cases h;exact fun hn=>zfx _ _ hn
  · cases h
def xM:Know Tryd.prog:=⟨44,qZ,U7⟩
def xK:Know Tryd.prog:=⟨44,fun I=>zC I (qZ I),zf U7⟩
theorem WL (m:Str) (hd:Int) (bs:List Int) (p:Int) (fs:List Fld) (pa sk co:Int) (out:List Evt) (k:Int) (hneed:zM ⟨m,hd,bs,p,none,fs,pa,sk,co,out⟩∧0≤k∧k≤255):Spc Tryd.prog 43 [.v (.one (.ptr 0 0)),.v (.one (.p (.int .u8 k)))] [.abs (.fm ⟨m,hd,bs,p,none,fs,pa,sk,co,out⟩)] (.ret (.tup [])) [.abs (.fm ((yc ⟨m,hd,bs,p,none,fs,pa,sk,co,out⟩ (UInt8.ofNat k.toNat))))]:=by
  obtain⟨hneed,h0,h1⟩:=hneed
  have hc:=fun n=>u8k h0 h1 n
  have h45:(UInt8.ofNat k.toNat=45)=(k=45):=hc 45 (by decide)
  have h32:(UInt8.ofNat k.toNat=32)=(k=32):=hc 32 (by decide)
  have h9:(UInt8.ofNat k.toNat=9)=(k=9):=hc 9 (by decide)
  have h13:(UInt8.ofNat k.toNat=13)=(k=13):=hc 13 (by decide)
  clear hc
  generalize UInt8.ofNat k.toNat=c at *
  unfold zM at hneed
  simp only at hneed
  generalize hr:yc ⟨m,hd,bs,p,none,fs,pa,sk,co,out⟩ c=r
  unfold yc at hr
  simp only [h45,h32,h9,h13] at hr
  refine spcG zl mixed Tryd.func43 (by kernel_rfl) { cfgF with keep:=some [0,1,4]} [yX,yV,xJ,xI,xM,xK] (by kernel_rfl) ?_
  intro I X hI hX
  refine zi (let y0:=I.hid (α:=Go.Ab.Fm) (zG (Go.Ab.Fm.mk m hd bs p (Option.none) fs pa sk co out) (5:Int));let y1:=I.hid (α:=(Prop)) (zM (Go.Ab.Fm.mk m hd bs p (Option.none) fs pa sk co out));let y2:=I.hid (α:=(List Go.Ab.Evt)) (HAppend.hAppend out ([(Go.Ab.Evt.mk (3:Int) (Hd.mk ([]:Str) ([]:Str) (0:Int) ([]:List Fld) (0:Int)) ([]:Str) (Go.Ab.Prt.mk ([]:Str) ([]:Str) ([]:Str) ([]:Str)) (0:Int))]:List Go.Ab.Evt));let y3:=I.hid (α:=(Prop)) (zM (Go.Ab.Fm.mk m hd bs (7:Int) (Option.none) fs pa sk co out));.br (I.ieq k 32) (.br (I.ieq p 1) (.br (I.ieq k 45) (.fin (.ret (.tup [])) [(.abs (.fm (Go.Ab.Fm.mk m hd bs (2:Int) (Option.none) fs pa sk co out)))]) (.br (I.ieq p 2) (.br (I.ieq k 45) (.need y3 (.fin (.ret (.tup [])) [(.abs (.fm (Go.Ab.Fm.mk m hd bs (7:Int) (Option.none) fs pa sk co y2)))])) (.br (I.bnot (I.ieq p 2)) (.fin (.ret (.tup [])) [(.abs (.fm (Go.Ab.Fm.mk m hd bs (3:Int) (Option.none) fs pa sk co out)))]) (.br (I.bnot (I.ieq p 2)) (.br (I.ieq k 13) (.fin (.ret (.tup [])) [(.abs (.fm (Go.Ab.Fm.mk m hd bs (4:Int) (Option.none) fs pa sk co out)))]) (.need y1 (.fin (.ret (.tup [])) [(.abs (.fm y0))]))) (.need y1 (.fin (.ret (.tup [])) [(.abs (.fm y0))]))))) (.br (I.bnot (I.ieq p 2)) (.fin (.ret (.tup [])) [(.abs (.fm (Go.Ab.Fm.mk m hd bs (3:Int) (Option.none) fs pa sk co out)))]) (.br (I.bnot (I.ieq p 2)) (.br (I.ieq k 13) (.fin (.ret (.tup [])) [(.abs (.fm (Go.Ab.Fm.mk m hd bs (4:Int) (Option.none) fs pa sk co out)))]) (.need y1 (.fin (.ret (.tup [])) [(.abs (.fm y0))]))) (.need y1 (.fin (.ret (.tup [])) [(.abs (.fm y0))])))))) (.br (I.ieq p 2) (.br (I.ieq k 45) (.need y3 (.fin (.ret (.tup [])) [(.abs (.fm (Go.Ab.Fm.mk m hd bs (7:Int) (Option.none) fs pa sk co y2)))])) (.br (I.bnot (I.ieq p 2)) (.fin (.ret (.tup [])) [(.abs (.fm (Go.Ab.Fm.mk m hd bs (3:Int) (Option.none) fs pa sk co out)))]) (.br (I.bnot (I.ieq p 2)) (.br (I.ieq k 13) (.fin (.ret (.tup [])) [(.abs (.fm (Go.Ab.Fm.mk m hd bs (4:Int) (Option.none) fs pa sk co out)))]) (.need y1 (.fin (.ret (.tup [])) [(.abs (.fm y0))]))) (.need y1 (.fin (.ret (.tup [])) [(.abs (.fm y0))]))))) (.br (I.bnot (I.ieq p 2)) (.fin (.ret (.tup [])) [(.abs (.fm (Go.Ab.Fm.mk m hd bs (3:Int) (Option.none) fs pa sk co out)))]) (.br (I.bnot (I.ieq p 2)) (.br (I.ieq k 13) (.fin (.ret (.tup [])) [(.abs (.fm (Go.Ab.Fm.mk m hd bs (4:Int) (Option.none) fs pa sk co out)))]) (.need y1 (.fin (.ret (.tup [])) [(.abs (.fm y0))]))) (.need y1 (.fin (.ret (.tup [])) [(.abs (.fm y0))])))))) (.br (I.ieq p 1) (.br (I.ieq k 45) (.fin (.ret (.tup [])) [(.abs (.fm (Go.Ab.Fm.mk m hd bs (2:Int) (Option.none) fs pa sk co out)))]) (.br (I.ieq p 2) (.br (I.ieq k 45) (.need y3 (.fin (.ret (.tup [])) [(.abs (.fm (Go.Ab.Fm.mk m hd bs (7:Int) (Option.none) fs pa sk co y2)))])) (.br (I.bnot (I.ieq p 2)) (.br (I.ieq k 9) (.fin (.ret (.tup [])) [(.abs (.fm (Go.Ab.Fm.mk m hd bs (3:Int) (Option.none) fs pa sk co out)))]) (.br (I.bnot (I.ieq p 2)) (.br (I.ieq k 13) (.fin (.ret (.tup [])) [(.abs (.fm (Go.Ab.Fm.mk m hd bs (4:Int) (Option.none) fs pa sk co out)))]) (.need y1 (.fin (.ret (.tup [])) [(.abs (.fm y0))]))) (.need y1 (.fin (.ret (.tup [])) [(.abs (.fm y0))])))) (.br (I.bnot (I.ieq p 2)) (.br (I.ieq k 13) (.fin (.ret (.tup [])) [(.abs (.fm (Go.Ab.Fm.mk m hd bs (4:Int) (Option.none) fs pa sk co out)))]) (.need y1 (.fin (.ret (.tup [])) [(.abs (.fm y0))]))) (.need y1 (.fin (.ret (.tup [])) [(.abs (.fm y0))]))))) (.br (I.bnot (I.ieq p 2)) (.br (I.ieq k 9) (.fin (.ret (.tup [])) [(.abs (.fm (Go.Ab.Fm.mk m hd bs (3:Int) (Option.none) fs pa sk co out)))]) (.br (I.bnot (I.ieq p 2)) (.br (I.ieq k 13) (.fin (.ret (.tup [])) [(.abs (.fm (Go.Ab.Fm.mk m hd bs (4:Int) (Option.none) fs pa sk co out)))]) (.need y1 (.fin (.ret (.tup [])) [(.abs (.fm y0))]))) (.need y1 (.fin (.ret (.tup [])) [(.abs (.fm y0))])))) (.br (I.bnot (I.ieq p 2)) (.br (I.ieq k 13) (.fin (.ret (.tup [])) [(.abs (.fm (Go.Ab.Fm.mk m hd bs (4:Int) (Option.none) fs pa sk co out)))]) (.need y1 (.fin (.ret (.tup [])) [(.abs (.fm y0))]))) (.need y1 (.fin (.ret (.tup [])) [(.abs (.fm y0))])))))) (.br (I.ieq p 2) (.br (I.ieq k 45) (.need y3 (.fin (.ret (.tup [])) [(.abs (.fm (Go.Ab.Fm.mk m hd bs (7:Int) (Option.none) fs pa sk co y2)))])) (.br (I.bnot (I.ieq p 2)) (.br (I.ieq k 9) (.fin (.ret (.tup [])) [(.abs (.fm (Go.Ab.Fm.mk m hd bs (3:Int) (Option.none) fs pa sk co out)))]) (.br (I.bnot (I.ieq p 2)) (.br (I.ieq k 13) (.fin (.ret (.tup [])) [(.abs (.fm (Go.Ab.Fm.mk m hd bs (4:Int) (Option.none) fs pa sk co out)))]) (.need y1 (.fin (.ret (.tup [])) [(.abs (.fm y0))]))) (.need y1 (.fin (.ret (.tup [])) [(.abs (.fm y0))])))) (.br (I.bnot (I.ieq p 2)) (.br (I.ieq k 13) (.fin (.ret (.tup [])) [(.abs (.fm (Go.Ab.Fm.mk m hd bs (4:Int) (Option.none) fs pa sk co out)))]) (.need y1 (.fin (.ret (.tup [])) [(.abs (.fm y0))]))) (.need y1 (.fin (.ret (.tup [])) [(.abs (.fm y0))]))))) (.br (I.bnot (I.ieq p 2)) (.br (I.ieq k 9) (.fin (.ret (.tup [])) [(.abs (.fm (Go.Ab.Fm.mk m hd bs (3:Int) (Option.none) fs pa sk co out)))]) (.br (I.bnot (I.ieq p 2)) (.br (I.ieq k 13) (.fin (.ret (.tup [])) [(.abs (.fm (Go.Ab.Fm.mk m hd bs (4:Int) (Option.none) fs pa sk co out)))]) (.need y1 (.fin (.ret (.tup [])) [(.abs (.fm y0))]))) (.need y1 (.fin (.ret (.tup [])) [(.abs (.fm y0))])))) (.br (I.bnot (I.ieq p 2)) (.br (I.ieq k 13) (.fin (.ret (.tup [])) [(.abs (.fm (Go.Ab.Fm.mk m hd bs (4:Int) (Option.none) fs pa sk co out)))]) (.need y1 (.fin (.ret (.tup [])) [(.abs (.fm y0))]))) (.need y1 (.fin (.ret (.tup [])) [(.abs (.fm y0))]))))))) (by kernel_rfl) ?_
  simp only [zq]
  subst hI
  simp only [nrmA,nrmB,nrlB,reduceCtorEq,HO.abs.injEq,Gh.fm.injEq]
  (repeat' (first|refine And.intro ?_ ?_|intro _))<;>first|omega|exact True.intro|exact False.elim ‹False›|skip
  all_goals first
    |omega
    |(unfold zM;simp only;omega)
    |(subst hr;simp [*,zG,evE,hd0,prt0];done)
def wY (I:Alg) (args:List D) (hp:List HO):Option CT:=match args,hp with
  |[.v (.one (.ptr 0 0)),.v (.one (.p (.int .u8 k)))],[.abs (.fm ⟨m,hd,bs,p,none,fs,pa,sk,co,out⟩)]=>(fun(m:Str) (hd:Int) (bs:List Int) (p:Int) (fs:List Fld) (pa sk co:Int) (out:List Evt) (k:Int)=>(some (.one ⟨I.hid (zM ⟨m,hd,bs,p,none,fs,pa,sk,co,out⟩∧0≤k∧k≤255),(.ret (.tup [])),[.abs (.fm (I.hid ((yc ⟨m,hd,bs,p,none,fs,pa,sk,co,out⟩ (UInt8.ofNat k.toNat)))))]⟩):Option CT)) m hd bs p fs pa sk co out k
  |_,_=>none
theorem Z9:zy Tryd.prog 43 (wY alg):=by
  intro args hp r h
  unfold wY at h
  split at h
  · cases h;exact fun hn=>WL _ _ _ _ _ _ _ _ _ _ hn
  · cases h
def Tc:Know Tryd.prog:=⟨43,wY,Z9⟩
def U9:Know Tryd.prog:=⟨43,fun I=>zC I (wY I),zf Z9⟩
theorem za8 (m:Str) (hd:Int) (bs:List Int) (p:Int) (ln:Ln) (fs:List Fld) (pa sk co:Int) (out:List Evt) (k:Int) (hneed:zM ⟨m,hd,bs,p,some ln,fs,pa,sk,co,out⟩∧0≤k∧k≤255):Spc Tryd.prog 43 [.v (.one (.ptr 0 0)),.v (.one (.p (.int .u8 k)))] [.abs (.fm ⟨m,hd,bs,p,some ln,fs,pa,sk,co,out⟩)] (.ret (.tup [])) [.abs (.fm ((yc ⟨m,hd,bs,p,some ln,fs,pa,sk,co,out⟩ (UInt8.ofNat k.toNat))))]:=by
  obtain⟨hneed,h0,h1⟩:=hneed
  have hc:=fun n=>u8k h0 h1 n
  have h45:(UInt8.ofNat k.toNat=45)=(k=45):=hc 45 (by decide)
  have h32:(UInt8.ofNat k.toNat=32)=(k=32):=hc 32 (by decide)
  have h9:(UInt8.ofNat k.toNat=9)=(k=9):=hc 9 (by decide)
  have h13:(UInt8.ofNat k.toNat=13)=(k=13):=hc 13 (by decide)
  clear hc
  generalize UInt8.ofNat k.toNat=c at *
  unfold zM at hneed
  simp only at hneed
  generalize hr:yc ⟨m,hd,bs,p,some ln,fs,pa,sk,co,out⟩ c=r
  unfold yc at hr
  simp only [h45,h32,h9,h13] at hr
  refine spcG zl mixed Tryd.func43 (by kernel_rfl) { cfgF with keep:=some [0,1,4]} [yX,yV,xJ,xI,xM,xK,Tc,U9] (by kernel_rfl) ?_
  intro I X hI hX
  refine zi (let y0:=I.hid (α:=Go.Ab.Fm) (zG (Go.Ab.Fm.mk m hd bs p (Option.some (Go.Ab.Ln.mk (Go.Ab.Ln.b ln) (Go.Ab.Ln.cr ln) (Go.Ab.Ln.code ln))) fs pa sk co out) (5:Int));let y1:=I.hid (α:=(Prop)) (zM (Go.Ab.Fm.mk m hd bs p (Option.some (Go.Ab.Ln.mk (Go.Ab.Ln.b ln) (Go.Ab.Ln.cr ln) (Go.Ab.Ln.code ln))) fs pa sk co out));let y2:=I.hid (α:=(List Go.Ab.Evt)) (HAppend.hAppend out ([(Go.Ab.Evt.mk (3:Int) (Hd.mk ([]:Str) ([]:Str) (0:Int) ([]:List Fld) (0:Int)) ([]:Str) (Go.Ab.Prt.mk ([]:Str) ([]:Str) ([]:Str) ([]:Str)) (0:Int))]:List Go.Ab.Evt));let y3:=I.hid (α:=(Prop)) (zM (Go.Ab.Fm.mk m hd bs (7:Int) (Option.some (Go.Ab.Ln.mk (Go.Ab.Ln.b ln) (Go.Ab.Ln.cr ln) (Go.Ab.Ln.code ln))) fs pa sk co out));.br (I.ieq k 32) (.br (I.ieq p 1) (.br (I.ieq k 45) (.fin (.ret (.tup [])) [(.abs (.fm (Go.Ab.Fm.mk m hd bs (2:Int) (Option.some (Go.Ab.Ln.mk (Go.Ab.Ln.b ln) (Go.Ab.Ln.cr ln) (Go.Ab.Ln.code ln))) fs pa sk co out)))]) (.br (I.ieq p 2) (.br (I.ieq k 45) (.need y3 (.fin (.ret (.tup [])) [(.abs (.fm (Go.Ab.Fm.mk m hd bs (7:Int) (Option.some (Go.Ab.Ln.mk (Go.Ab.Ln.b ln) (Go.Ab.Ln.cr ln) (Go.Ab.Ln.code ln))) fs pa sk co y2)))])) (.br (I.bnot (I.ieq p 2)) (.fin (.ret (.tup [])) [(.abs (.fm (Go.Ab.Fm.mk m hd bs (3:Int) (Option.some (Go.Ab.Ln.mk (Go.Ab.Ln.b ln) (Go.Ab.Ln.cr ln) (Go.Ab.Ln.code ln))) fs pa sk co out)))]) (.br (I.bnot (I.ieq p 2)) (.br (I.ieq k 13) (.fin (.ret (.tup [])) [(.abs (.fm (Go.Ab.Fm.mk m hd bs (4:Int) (Option.some (Go.Ab.Ln.mk (Go.Ab.Ln.b ln) (Go.Ab.Ln.cr ln) (Go.Ab.Ln.code ln))) fs pa sk co out)))]) (.need y1 (.fin (.ret (.tup [])) [(.abs (.fm y0))]))) (.need y1 (.fin (.ret (.tup [])) [(.abs (.fm y0))]))))) (.br (I.bnot (I.ieq p 2)) (.fin (.ret (.tup [])) [(.abs (.fm (Go.Ab.Fm.mk m hd bs (3:Int) (Option.some (Go.Ab.Ln.mk (Go.Ab.Ln.b ln) (Go.Ab.Ln.cr ln) (Go.Ab.Ln.code ln))) fs pa sk co out)))]) (.br (I.bnot (I.ieq p 2)) (.br (I.ieq k 13) (.fin (.ret (.tup [])) [(.abs (.fm (Go.Ab.Fm.mk m hd bs (4:Int) (Option.some (Go.Ab.Ln.mk (Go.Ab.Ln.b ln) (Go.Ab.Ln.cr ln) (Go.Ab.Ln.code ln))) fs pa sk co out)))]) (.need y1 (.fin (.ret (.tup [])) [(.abs (.fm y0))]))) (.need y1 (.fin (.ret (.tup [])) [(.abs (.fm y0))])))))) (.br (I.ieq p 2) (.br (I.ieq k 45) (.need y3 (.fin (.ret (.tup [])) [(.abs (.fm (Go.Ab.Fm.mk m hd bs (7:Int) (Option.some (Go.Ab.Ln.mk (Go.Ab.Ln.b ln) (Go.Ab.Ln.cr ln) (Go.Ab.Ln.code ln))) fs pa sk co y2)))])) (.br (I.bnot (I.ieq p 2)) (.fin (.ret (.tup [])) [(.abs (.fm (Go.Ab.Fm.mk m hd bs (3:Int) (Option.some (Go.Ab.Ln.mk (Go.Ab.Ln.b ln) (Go.Ab.Ln.cr ln) (Go.Ab.Ln.code ln))) fs pa sk co out)))]) (.br (I.bnot (I.ieq p 2)) (.br (I.ieq k 13) (.fin (.ret (.tup [])) [(.abs (.fm (Go.Ab.Fm.mk m hd bs (4:Int) (Option.some (Go.Ab.Ln.mk (Go.Ab.Ln.b ln) (Go.Ab.Ln.cr ln) (Go.Ab.Ln.code ln))) fs pa sk co out)))]) (.need y1 (.fin (.ret (.tup [])) [(.abs (.fm y0))]))) (.need y1 (.fin (.ret (.tup [])) [(.abs (.fm y0))]))))) (.br (I.bnot (I.ieq p 2)) (.fin (.ret (.tup [])) [(.abs (.fm (Go.Ab.Fm.mk m hd bs (3:Int) (Option.some (Go.Ab.Ln.mk (Go.Ab.Ln.b ln) (Go.Ab.Ln.cr ln) (Go.Ab.Ln.code ln))) fs pa sk co out)))]) (.br (I.bnot (I.ieq p 2)) (.br (I.ieq k 13) (.fin (.ret (.tup [])) [(.abs (.fm (Go.Ab.Fm.mk m hd bs (4:Int) (Option.some (Go.Ab.Ln.mk (Go.Ab.Ln.b ln) (Go.Ab.Ln.cr ln) (Go.Ab.Ln.code ln))) fs pa sk co out)))]) (.need y1 (.fin (.ret (.tup [])) [(.abs (.fm y0))]))) (.need y1 (.fin (.ret (.tup [])) [(.abs (.fm y0))])))))) (.br (I.ieq p 1) (.br (I.ieq k 45) (.fin (.ret (.tup [])) [(.abs (.fm (Go.Ab.Fm.mk m hd bs (2:Int) (Option.some (Go.Ab.Ln.mk (Go.Ab.Ln.b ln) (Go.Ab.Ln.cr ln) (Go.Ab.Ln.code ln))) fs pa sk co out)))]) (.br (I.ieq p 2) (.br (I.ieq k 45) (.need y3 (.fin (.ret (.tup [])) [(.abs (.fm (Go.Ab.Fm.mk m hd bs (7:Int) (Option.some (Go.Ab.Ln.mk (Go.Ab.Ln.b ln) (Go.Ab.Ln.cr ln) (Go.Ab.Ln.code ln))) fs pa sk co y2)))])) (.br (I.bnot (I.ieq p 2)) (.br (I.ieq k 9) (.fin (.ret (.tup [])) [(.abs (.fm (Go.Ab.Fm.mk m hd bs (3:Int) (Option.some (Go.Ab.Ln.mk (Go.Ab.Ln.b ln) (Go.Ab.Ln.cr ln) (Go.Ab.Ln.code ln))) fs pa sk co out)))]) (.br (I.bnot (I.ieq p 2)) (.br (I.ieq k 13) (.fin (.ret (.tup [])) [(.abs (.fm (Go.Ab.Fm.mk m hd bs (4:Int) (Option.some (Go.Ab.Ln.mk (Go.Ab.Ln.b ln) (Go.Ab.Ln.cr ln) (Go.Ab.Ln.code ln))) fs pa sk co out)))]) (.need y1 (.fin (.ret (.tup [])) [(.abs (.fm y0))]))) (.need y1 (.fin (.ret (.tup [])) [(.abs (.fm y0))])))) (.br (I.bnot (I.ieq p 2)) (.br (I.ieq k 13) (.fin (.ret (.tup [])) [(.abs (.fm (Go.Ab.Fm.mk m hd bs (4:Int) (Option.some (Go.Ab.Ln.mk (Go.Ab.Ln.b ln) (Go.Ab.Ln.cr ln) (Go.Ab.Ln.code ln))) fs pa sk co out)))]) (.need y1 (.fin (.ret (.tup [])) [(.abs (.fm y0))]))) (.need y1 (.fin (.ret (.tup [])) [(.abs (.fm y0))]))))) (.br (I.bnot (I.ieq p 2)) (.br (I.ieq k 9) (.fin (.ret (.tup [])) [(.abs (.fm (Go.Ab.Fm.mk m hd bs (3:Int) (Option.some (Go.Ab.Ln.mk (Go.Ab.Ln.b ln) (Go.Ab.Ln.cr ln) (Go.Ab.Ln.code ln))) fs pa sk co out)))]) (.br (I.bnot (I.ieq p 2)) (.br (I.ieq k 13) (.fin (.ret (.tup [])) [(.abs (.fm (Go.Ab.Fm.mk m hd bs (4:Int) (Option.some (Go.Ab.Ln.mk (Go.Ab.Ln.b ln) (Go.Ab.Ln.cr ln) (Go.Ab.Ln.code ln))) fs pa sk co out)))]) (.need y1 (.fin (.ret (.tup [])) [(.abs (.fm y0))]))) (.need y1 (.fin (.ret (.tup [])) [(.abs (.fm y0))])))) (.br (I.bnot (I.ieq p 2)) (.br (I.ieq k 13) (.fin (.ret (.tup [])) [(.abs (.fm (Go.Ab.Fm.mk m hd bs (4:Int) (Option.some (Go.Ab.Ln.mk (Go.Ab.Ln.b ln) (Go.Ab.Ln.cr ln) (Go.Ab.Ln.code ln))) fs pa sk co out)))]) (.need y1 (.fin (.ret (.tup [])) [(.abs (.fm y0))]))) (.need y1 (.fin (.ret (.tup [])) [(.abs (.fm y0))])))))) (.br (I.ieq p 2) (.br (I.ieq k 45) (.need y3 (.fin (.ret (.tup [])) [(.abs (.fm (Go.Ab.Fm.mk m hd bs (7:Int) (Option.some (Go.Ab.Ln.mk (Go.Ab.Ln.b ln) (Go.Ab.Ln.cr ln) (Go.Ab.Ln.code ln))) fs pa sk co y2)))])) (.br (I.bnot (I.ieq p 2)) (.br (I.ieq k 9) (.fin (.ret (.tup [])) [(.abs (.fm (Go.Ab.Fm.mk m hd bs (3:Int) (Option.some (Go.Ab.Ln.mk (Go.Ab.Ln.b ln) (Go.Ab.Ln.cr ln) (Go.Ab.Ln.code ln))) fs pa sk co out)))]) (.br (I.bnot (I.ieq p 2)) (.br (I.ieq k 13) (.fin (.ret (.tup [])) [(.abs (.fm (Go.Ab.Fm.mk m hd bs (4:Int) (Option.some (Go.Ab.Ln.mk (Go.Ab.Ln.b ln) (Go.Ab.Ln.cr ln) (Go.Ab.Ln.code ln))) fs pa sk co out)))]) (.need y1 (.fin (.ret (.tup [])) [(.abs (.fm y0))]))) (.need y1 (.fin (.ret (.tup [])) [(.abs (.fm y0))])))) (.br (I.bnot (I.ieq p 2)) (.br (I.ieq k 13) (.fin (.ret (.tup [])) [(.abs (.fm (Go.Ab.Fm.mk m hd bs (4:Int) (Option.some (Go.Ab.Ln.mk (Go.Ab.Ln.b ln) (Go.Ab.Ln.cr ln) (Go.Ab.Ln.code ln))) fs pa sk co out)))]) (.need y1 (.fin (.ret (.tup [])) [(.abs (.fm y0))]))) (.need y1 (.fin (.ret (.tup [])) [(.abs (.fm y0))]))))) (.br (I.bnot (I.ieq p 2)) (.br (I.ieq k 9) (.fin (.ret (.tup [])) [(.abs (.fm (Go.Ab.Fm.mk m hd bs (3:Int) (Option.some (Go.Ab.Ln.mk (Go.Ab.Ln.b ln) (Go.Ab.Ln.cr ln) (Go.Ab.Ln.code ln))) fs pa sk co out)))]) (.br (I.bnot (I.ieq p 2)) (.br (I.ieq k 13) (.fin (.ret (.tup [])) [(.abs (.fm (Go.Ab.Fm.mk m hd bs (4:Int) (Option.some (Go.Ab.Ln.mk (Go.Ab.Ln.b ln) (Go.Ab.Ln.cr ln) (Go.Ab.Ln.code ln))) fs pa sk co out)))]) (.need y1 (.fin (.ret (.tup [])) [(.abs (.fm y0))]))) (.need y1 (.fin (.ret (.tup [])) [(.abs (.fm y0))])))) (.br (I.bnot (I.ieq p 2)) (.br (I.ieq k 13) (.fin (.ret (.tup [])) [(.abs (.fm (Go.Ab.Fm.mk m hd bs (4:Int) (Option.some (Go.Ab.Ln.mk (Go.Ab.Ln.b ln) (Go.Ab.Ln.cr ln) (Go.Ab.Ln.code ln))) fs pa sk co out)))]) (.need y1 (.fin (.ret (.tup [])) [(.abs (.fm y0))]))) (.need y1 (.fin (.ret (.tup [])) [(.abs (.fm y0))]))))))) (by kernel_rfl) ?_
  simp only [zq]
  subst hI
  simp only [nrmA,nrmB,nrlB,reduceCtorEq,HO.abs.injEq,Gh.fm.injEq]
  (repeat' (first|refine And.intro ?_ ?_|intro _))<;>first|omega|exact True.intro|exact False.elim ‹False›|skip
  all_goals first
    |omega
    |(unfold zM;simp only;omega)
    |(subst hr;simp [*,zG,evE,hd0,prt0];done)
theorem zcx (f:Fm) (k:Int) (hneed:zM f∧0≤k∧k≤255):Spc Tryd.prog 43 [.v (.one (.ptr 0 0)),.v (.one (.p (.int .u8 k)))] [.abs (.fm f)] (.ret (.tup [])) [.abs (.fm ((yc f (UInt8.ofNat k.toNat))))]:=by
  obtain⟨m,hd,bs,p,ln,fs,pa,sk,co,out⟩:=f
  cases ln with
  |none=>exact WL m hd bs p fs pa sk co out k hneed
  |some ln=>exact za8 m hd bs p ln fs pa sk co out k hneed
def uj (I:Alg) (args:List D) (hp:List HO):Option CT:=match args,hp with
  |[.v (.one (.ptr 0 0)),.v (.one (.p (.int .u8 k)))],[.abs (.fm f)]=>(fun(f:Fm) (k:Int)=>(some (.one ⟨I.hid (zM f∧0≤k∧k≤255),(.ret (.tup [])),[.abs (.fm (I.hid ((yc f (UInt8.ofNat k.toNat)))))]⟩):Option CT)) f k
  |_,_=>none
theorem Xr:zy Tryd.prog 43 (uj alg):=by
  intro args hp r h
  unfold uj at h
  split at h
  · cases h;exact fun hn=>zcx _ _ hn
  · cases h
def Xq:Know Tryd.prog:=⟨43,uj,Xr⟩
def Xp:Know Tryd.prog:=⟨43,fun I=>zC I (uj I),zf Xr⟩
structure FmS (f:Fm):Prop where
  bs:f.bs=xN f.mark
  ml:f.mark.length≤1000000
  h0:0≤f.held
  h1:f.mark=[]∨f.held<f.mark.length
  s0:0≤f.skip∧f.skip≤2
theorem U8 (m:Str) (hd:Int) (bs:List Int) (p:Int) (fs:List Fld) (pa sk co:Int) (out:List Evt) (k:Int) (hneed:fm9 ⟨m,hd,bs,p,none,fs,pa,sk,co,out⟩∧FmS ⟨m,hd,bs,p,none,fs,pa,sk,co,out⟩∧0≤k∧k≤255):Spc Tryd.prog 42 [.v (.one (.ptr 0 0)),.v (.one (.p (.int .u8 k)))] [.abs (.fm ⟨m,hd,bs,p,none,fs,pa,sk,co,out⟩)] (.ret (.tup [])) [.abs (.fm ((yO ⟨m,hd,bs,p,none,fs,pa,sk,co,out⟩ (UInt8.ofNat k.toNat))))]:=by
  obtain⟨hneed,⟨hbs,hml,hh0,hh1,hs0⟩,h0,h1⟩:=hneed
  unfold fm9 at hneed
  simp only at hneed hbs hml hh0 hh1 hs0
  generalize hr:yO ⟨m,hd,bs,p,none,fs,pa,sk,co,out⟩ (UInt8.ofNat k.toNat)=r
  unfold yO wM fmSk at hr
  simp only [Int.min_def] at hr
  refine spcG zl mixed Tryd.func42 (by kernel_rfl) { cfgF with fz:=[60],keep:=some [0,1,4,5,6]} [ZG,ZF,yX,yV,xJ,xI] (by kernel_rfl) ?_
  intro I X hI hX
  refine zi (let y0:=I.len (α:=UInt8) (I.hid (α:=Str) (Prod.fst (zX m (Int.toNat hd) (UInt8.ofNat (Int.toNat k)))));let y1:=I.hid (α:=Int) (Nat.cast (Prod.fst (Prod.snd (zX m (Int.toNat hd) (UInt8.ofNat (Int.toNat k))))));let y2:=I.hid (α:=(List Go.Ab.Evt)) (HAppend.hAppend out ([(Go.Ab.Evt.mk (2:Int) (Hd.mk ([]:Str) ([]:Str) (0:Int) ([]:List Fld) (0:Int)) (I.cut (α:=UInt8) (I.hid (α:=Str) (Prod.fst (zX m (Int.toNat hd) (UInt8.ofNat (Int.toNat k))))) (I.imin sk y0) y0) (Go.Ab.Prt.mk ([]:Str) ([]:Str) ([]:Str) ([]:Str)) (0:Int))]:List Go.Ab.Evt));let y3:=I.hid (α:=(List Go.Ab.Evt)) (HAppend.hAppend out ([(Go.Ab.Evt.mk (6:Int) (Hd.mk ([]:Str) ([]:Str) (0:Int) ([]:List Fld) (0:Int)) ([]:Str) (Go.Ab.Prt.mk ([]:Str) ([]:Str) ([]:Str) ([]:Str)) (0:Int))]:List Go.Ab.Evt));let y4:=I.hid (α:=(Prop)) (zM (Go.Ab.Fm.mk m y1 bs p (Option.none) fs pa (I.sub sk (I.imin sk y0)) co out));let y5:=I.bnot (I.hid (α:=Bool) (Prod.snd (Prod.snd (zX m (Int.toNat hd) (UInt8.ofNat (Int.toNat k))))));.need (I.hid (α:=(Prop)) (And (Eq bs (xN m)) (And (LE.le (List.length m) 1000000) (And (LE.le (0:Int) hd) (And (Or (Eq m ([]:Str)) (LT.lt hd (Nat.cast (List.length m)))) (And (LE.le (0:Int) k) (LE.le k (255:Int)))))))) (.need (I.inr Go.IntKind.i64 (I.sub sk (I.imin sk y0))) (.need (I.cutb (I.imin sk y0) y0 y0) (.br (I.ieq p 6) (.br (I.ilt 0 (I.sub y0 (I.imin sk y0))) (.need y4 (.br y5 (.fin (.ret (.tup [])) [(.abs (.fm (Go.Ab.Fm.mk m y1 bs p (Option.none) fs pa (I.sub sk (I.imin sk y0)) co y2)))]) (.br (I.ieq p 6) (.need (I.hid (α:=(Prop)) (zM (Go.Ab.Fm.mk m y1 bs p (Option.none) fs pa (I.sub sk (I.imin sk y0)) co y2))) (.fin (.ret (.tup [])) [(.abs (.fm (Go.Ab.Fm.mk m y1 bs (1:Int) (Option.none) fs pa (0:Int) co (I.hid (α:=(List Go.Ab.Evt)) (HAppend.hAppend y2 ([(Go.Ab.Evt.mk (6:Int) (Hd.mk ([]:Str) ([]:Str) (0:Int) ([]:List Fld) (0:Int)) ([]:Str) (Go.Ab.Prt.mk ([]:Str) ([]:Str) ([]:Str) ([]:Str)) (0:Int))]:List Go.Ab.Evt))))))])) (.fin (.ret (.tup [])) [(.abs (.fm (Go.Ab.Fm.mk m y1 bs (1:Int) (Option.none) fs pa (0:Int) co y2)))])))) (.br y5 (.fin (.ret (.tup [])) [(.abs (.fm (Go.Ab.Fm.mk m y1 bs p (Option.none) fs pa (I.sub sk (I.imin sk y0)) co out)))]) (.br (I.ieq p 6) (.need y4 (.fin (.ret (.tup [])) [(.abs (.fm (Go.Ab.Fm.mk m y1 bs (1:Int) (Option.none) fs pa (0:Int) co y3)))])) (.fin (.ret (.tup [])) [(.abs (.fm (Go.Ab.Fm.mk m y1 bs (1:Int) (Option.none) fs pa (0:Int) co out)))])))) (.br y5 (.fin (.ret (.tup [])) [(.abs (.fm (Go.Ab.Fm.mk m y1 bs p (Option.none) fs pa (I.sub sk (I.imin sk y0)) co out)))]) (.br (I.ieq p 6) (.need y4 (.fin (.ret (.tup [])) [(.abs (.fm (Go.Ab.Fm.mk m y1 bs (1:Int) (Option.none) fs pa (0:Int) co y3)))])) (.fin (.ret (.tup [])) [(.abs (.fm (Go.Ab.Fm.mk m y1 bs (1:Int) (Option.none) fs pa (0:Int) co out)))]))))))) (by kernel_rfl) ?_
  simp only [zq]
  generalize zX m hd.toNat (UInt8.ofNat k.toNat)=q at *
  obtain⟨o,n2,fd⟩:=q
  subst hI
  simp only [nrmA,nrmB,nrlB,reduceCtorEq,HO.abs.injEq,Gh.fm.injEq]
  simp only at hr
  have hn:0≤(if sk≤(o.length:Int) then sk else(o.length:Int))∧(if sk≤(o.length:Int) then sk else(o.length:Int))≤o.length∧(if sk≤(o.length:Int) then sk else(o.length:Int))≤sk:=by split<;>omega
  generalize(if sk≤(o.length:Int) then sk else(o.length:Int))=n at *
  rw [List.take_of_length_le (show(o.drop n.toNat).length≤o.length - n.toNat by rw [List.length_drop];exact Nat.le_refl _)]
  have hne:0<(o.length:Int) - n→¬ o.drop n.toNat=[]:=fun h k=>by have:=congrArg List.length k;rw [List.length_drop,List.length_nil] at this;omega
  have hnn: ¬ 0<(o.length:Int) - n→o.drop n.toNat=[]:=fun h=>List.drop_of_length_le (by omega)
  generalize o.drop n.toNat=D at *
  (repeat' (first|refine And.intro ?_ ?_|intro _))<;>first|omega|exact True.intro|exact False.elim ‹False›|skip
  all_goals first
    |omega
    |with_reducible assumption
    |(unfold zM;simp only [List.length_append,List.length_singleton];omega)
    |(have hne:=hne (by omega);clear hnn;subst hr;simp [*,evB,evO,hd0,prt0];done)
    |(have hnn:=hnn (by omega);clear hne;subst hr;simp [*,evB,evO,hd0,prt0];done)
    |(clear hne hnn;subst hr;simp [*,evB,evO,hd0,prt0];done)
def uh (I:Alg) (args:List D) (hp:List HO):Option CT:=match args,hp with
  |[.v (.one (.ptr 0 0)),.v (.one (.p (.int .u8 k)))],[.abs (.fm ⟨m,hd,bs,p,none,fs,pa,sk,co,out⟩)]=>(fun(m:Str) (hd:Int) (bs:List Int) (p:Int) (fs:List Fld) (pa sk co:Int) (out:List Evt) (k:Int)=>(some (.one ⟨I.hid (fm9 ⟨m,hd,bs,p,none,fs,pa,sk,co,out⟩∧FmS ⟨m,hd,bs,p,none,fs,pa,sk,co,out⟩∧0≤k∧k≤255),(.ret (.tup [])),[.abs (.fm (I.hid ((yO ⟨m,hd,bs,p,none,fs,pa,sk,co,out⟩ (UInt8.ofNat k.toNat)))))]⟩):Option CT)) m hd bs p fs pa sk co out k
  |_,_=>none
theorem Xo:zy Tryd.prog 42 (uh alg):=by
  intro args hp r h
  unfold uh at h
  split at h
  · cases h;exact fun hn=>U8 _ _ _ _ _ _ _ _ _ _ hn
  · cases h
def SY:Know Tryd.prog:=⟨42,uh,Xo⟩
def SX:Know Tryd.prog:=⟨42,fun I=>zC I (uh I),zf Xo⟩
theorem zcv (m:Str) (hd:Int) (bs:List Int) (p:Int) (ln:Ln) (fs:List Fld) (pa sk co:Int) (out:List Evt) (k:Int) (hneed:fm9 ⟨m,hd,bs,p,some ln,fs,pa,sk,co,out⟩∧FmS ⟨m,hd,bs,p,some ln,fs,pa,sk,co,out⟩∧0≤k∧k≤255):Spc Tryd.prog 42 [.v (.one (.ptr 0 0)),.v (.one (.p (.int .u8 k)))] [.abs (.fm ⟨m,hd,bs,p,some ln,fs,pa,sk,co,out⟩)] (.ret (.tup [])) [.abs (.fm ((yO ⟨m,hd,bs,p,some ln,fs,pa,sk,co,out⟩ (UInt8.ofNat k.toNat))))]:=by
  obtain⟨hneed,⟨hbs,hml,hh0,hh1,hs0⟩,h0,h1⟩:=hneed
  unfold fm9 at hneed
  simp only at hneed hbs hml hh0 hh1 hs0
  generalize hr:yO ⟨m,hd,bs,p,some ln,fs,pa,sk,co,out⟩ (UInt8.ofNat k.toNat)=r
  unfold yO wM fmSk at hr
  simp only [Int.min_def] at hr
  refine spcG zl mixed Tryd.func42 (by kernel_rfl) { cfgF with fz:=[60],keep:=some [0,1,4,5,6]} [ZG,ZF,yX,yV,xJ,xI,SY,SX] (by kernel_rfl) ?_
  intro I X hI hX
  refine zi (let y0:=I.len (α:=UInt8) (I.hid (α:=Str) (Prod.fst (zX m (Int.toNat hd) (UInt8.ofNat (Int.toNat k)))));let y1:=I.hid (α:=Int) (Nat.cast (Prod.fst (Prod.snd (zX m (Int.toNat hd) (UInt8.ofNat (Int.toNat k))))));let y2:=I.hid (α:=(List Go.Ab.Evt)) (HAppend.hAppend out ([(Go.Ab.Evt.mk (2:Int) (Hd.mk ([]:Str) ([]:Str) (0:Int) ([]:List Fld) (0:Int)) (I.cut (α:=UInt8) (I.hid (α:=Str) (Prod.fst (zX m (Int.toNat hd) (UInt8.ofNat (Int.toNat k))))) (I.imin sk y0) y0) (Go.Ab.Prt.mk ([]:Str) ([]:Str) ([]:Str) ([]:Str)) (0:Int))]:List Go.Ab.Evt));let y3:=I.hid (α:=(Prop)) (zM (Go.Ab.Fm.mk m y1 bs p (Option.some (Go.Ab.Ln.mk (Go.Ab.Ln.b ln) (Go.Ab.Ln.cr ln) (Go.Ab.Ln.code ln))) fs pa (I.sub sk (I.imin sk y0)) co out));let y4:=I.hid (α:=(List Go.Ab.Evt)) (HAppend.hAppend out ([(Go.Ab.Evt.mk (6:Int) (Hd.mk ([]:Str) ([]:Str) (0:Int) ([]:List Fld) (0:Int)) ([]:Str) (Go.Ab.Prt.mk ([]:Str) ([]:Str) ([]:Str) ([]:Str)) (0:Int))]:List Go.Ab.Evt));let y5:=I.bnot (I.hid (α:=Bool) (Prod.snd (Prod.snd (zX m (Int.toNat hd) (UInt8.ofNat (Int.toNat k))))));.need (I.hid (α:=(Prop)) (And (Eq bs (xN m)) (And (LE.le (List.length m) 1000000) (And (LE.le (0:Int) hd) (And (Or (Eq m ([]:Str)) (LT.lt hd (Nat.cast (List.length m)))) (And (LE.le (0:Int) k) (LE.le k (255:Int)))))))) (.need (I.inr Go.IntKind.i64 (I.sub sk (I.imin sk y0))) (.need (I.cutb (I.imin sk y0) y0 y0) (.br (I.ieq p 6) (.br (I.ilt 0 (I.sub y0 (I.imin sk y0))) (.need y3 (.br y5 (.fin (.ret (.tup [])) [(.abs (.fm (Go.Ab.Fm.mk m y1 bs p (Option.some (Go.Ab.Ln.mk (Go.Ab.Ln.b ln) (Go.Ab.Ln.cr ln) (Go.Ab.Ln.code ln))) fs pa (I.sub sk (I.imin sk y0)) co y2)))]) (.br (I.ieq p 6) (.need (I.hid (α:=(Prop)) (zM (Go.Ab.Fm.mk m y1 bs p (Option.some (Go.Ab.Ln.mk (Go.Ab.Ln.b ln) (Go.Ab.Ln.cr ln) (Go.Ab.Ln.code ln))) fs pa (I.sub sk (I.imin sk y0)) co y2))) (.fin (.ret (.tup [])) [(.abs (.fm (Go.Ab.Fm.mk m y1 bs (1:Int) (Option.some (Go.Ab.Ln.mk (Go.Ab.Ln.b ln) (Go.Ab.Ln.cr ln) (Go.Ab.Ln.code ln))) fs pa (0:Int) co (I.hid (α:=(List Go.Ab.Evt)) (HAppend.hAppend y2 ([(Go.Ab.Evt.mk (6:Int) (Hd.mk ([]:Str) ([]:Str) (0:Int) ([]:List Fld) (0:Int)) ([]:Str) (Go.Ab.Prt.mk ([]:Str) ([]:Str) ([]:Str) ([]:Str)) (0:Int))]:List Go.Ab.Evt))))))])) (.fin (.ret (.tup [])) [(.abs (.fm (Go.Ab.Fm.mk m y1 bs (1:Int) (Option.some (Go.Ab.Ln.mk (Go.Ab.Ln.b ln) (Go.Ab.Ln.cr ln) (Go.Ab.Ln.code ln))) fs pa (0:Int) co y2)))])))) (.br y5 (.fin (.ret (.tup [])) [(.abs (.fm (Go.Ab.Fm.mk m y1 bs p (Option.some (Go.Ab.Ln.mk (Go.Ab.Ln.b ln) (Go.Ab.Ln.cr ln) (Go.Ab.Ln.code ln))) fs pa (I.sub sk (I.imin sk y0)) co out)))]) (.br (I.ieq p 6) (.need y3 (.fin (.ret (.tup [])) [(.abs (.fm (Go.Ab.Fm.mk m y1 bs (1:Int) (Option.some (Go.Ab.Ln.mk (Go.Ab.Ln.b ln) (Go.Ab.Ln.cr ln) (Go.Ab.Ln.code ln))) fs pa (0:Int) co y4)))])) (.fin (.ret (.tup [])) [(.abs (.fm (Go.Ab.Fm.mk m y1 bs (1:Int) (Option.some (Go.Ab.Ln.mk (Go.Ab.Ln.b ln) (Go.Ab.Ln.cr ln) (Go.Ab.Ln.code ln))) fs pa (0:Int) co out)))])))) (.br y5 (.fin (.ret (.tup [])) [(.abs (.fm (Go.Ab.Fm.mk m y1 bs p (Option.some (Go.Ab.Ln.mk (Go.Ab.Ln.b ln) (Go.Ab.Ln.cr ln) (Go.Ab.Ln.code ln))) fs pa (I.sub sk (I.imin sk y0)) co out)))]) (.br (I.ieq p 6) (.need y3 (.fin (.ret (.tup [])) [(.abs (.fm (Go.Ab.Fm.mk m y1 bs (1:Int) (Option.some (Go.Ab.Ln.mk (Go.Ab.Ln.b ln) (Go.Ab.Ln.cr ln) (Go.Ab.Ln.code ln))) fs pa (0:Int) co y4)))])) (.fin (.ret (.tup [])) [(.abs (.fm (Go.Ab.Fm.mk m y1 bs (1:Int) (Option.some (Go.Ab.Ln.mk (Go.Ab.Ln.b ln) (Go.Ab.Ln.cr ln) (Go.Ab.Ln.code ln))) fs pa (0:Int) co out)))]))))))) (by kernel_rfl) ?_
  simp only [zq]
  generalize zX m hd.toNat (UInt8.ofNat k.toNat)=q at *
  obtain⟨o,n2,fd⟩:=q
  subst hI
  simp only [nrmA,nrmB,nrlB,reduceCtorEq,HO.abs.injEq,Gh.fm.injEq]
  simp only at hr
  have hn:0≤(if sk≤(o.length:Int) then sk else(o.length:Int))∧(if sk≤(o.length:Int) then sk else(o.length:Int))≤o.length∧(if sk≤(o.length:Int) then sk else(o.length:Int))≤sk:=by split<;>omega
  generalize(if sk≤(o.length:Int) then sk else(o.length:Int))=n at *
  rw [List.take_of_length_le (show(o.drop n.toNat).length≤o.length - n.toNat by rw [List.length_drop];exact Nat.le_refl _)]
  have hne:0<(o.length:Int) - n→¬ o.drop n.toNat=[]:=fun h k=>by have:=congrArg List.length k;rw [List.length_drop,List.length_nil] at this;omega
  have hnn: ¬ 0<(o.length:Int) - n→o.drop n.toNat=[]:=fun h=>List.drop_of_length_le (by omega)
  generalize o.drop n.toNat=D at *
  (repeat' (first|refine And.intro ?_ ?_|intro _))<;>first|omega|exact True.intro|exact False.elim ‹False›|skip
  all_goals first
    |omega
    |with_reducible assumption
    |(unfold zM;simp only [List.length_append,List.length_singleton];omega)
    |(have hne:=hne (by omega);clear hnn;subst hr;simp [*,evB,evO,hd0,prt0];done)
    |(have hnn:=hnn (by omega);clear hne;subst hr;simp [*,evB,evO,hd0,prt0];done)
    |(clear hne hnn;subst hr;simp [*,evB,evO,hd0,prt0];done)
theorem zdU (f:Fm) (k:Int) (hneed:fm9 f∧FmS f∧0≤k∧k≤255):Spc Tryd.prog 42 [.v (.one (.ptr 0 0)),.v (.one (.p (.int .u8 k)))] [.abs (.fm f)] (.ret (.tup [])) [.abs (.fm ((yO f (UInt8.ofNat k.toNat))))]:=by
  obtain⟨m,hd,bs,p,ln,fs,pa,sk,co,out⟩:=f
  cases ln with
  |none=>exact U8 m hd bs p fs pa sk co out k hneed
  |some ln=>exact zcv m hd bs p ln fs pa sk co out k hneed
def sW (I:Alg) (args:List D) (hp:List HO):Option CT:=match args,hp with
  |[.v (.one (.ptr 0 0)),.v (.one (.p (.int .u8 k)))],[.abs (.fm f)]=>(fun(f:Fm) (k:Int)=>(some (.one ⟨I.hid (fm9 f∧FmS f∧0≤k∧k≤255),(.ret (.tup [])),[.abs (.fm (I.hid ((yO f (UInt8.ofNat k.toNat)))))]⟩):Option CT)) f k
  |_,_=>none
theorem WJ:zy Tryd.prog 42 (sW alg):=by
  intro args hp r h
  unfold sW at h
  split at h
  · cases h;exact fun hn=>zdU _ _ hn
  · cases h
def WI:Know Tryd.prog:=⟨42,sW,WJ⟩
def WH:Know Tryd.prog:=⟨42,fun I=>zC I (sW I),zf WJ⟩
end Go.Proofs.YtknaogelmckimaaDoor
namespace Go.Proofs.YtknaogelmckimaaDoor
open Go Go.Sep Go.Ab
set_option maxRecDepth 100000
theorem zdZ (m:Str) (n:Nat) (c:UInt8):m=[]∨(zX m n c).2.1<m.length:=by
  unfold zX
  by_cases h:m=[]
  · exact .inl h
  · rw [if_neg h]
    have h0:0<m.length:=by cases m<;>simp_all
    unfold P.feed
    simp only
    repeat' split
    all_goals first|exact .inr h0|(right;assumption)
theorem Za (m:Str) (n:Nat) (c:UInt8):m=[]∨(((zX m n c).2.1:Nat):Int)<m.length:=(zdZ m n c).imp id fun h=>by omega
theorem Sl (l:List Fld):(yN l).1.bytes=[]:=by
  unfold yN zdz
  repeat' split
  all_goals rfl
def FdOk (f:List Fld):Prop:=f.length≤1000∧∀ x ∈ f,x.name.length≤1000000∧x.value.length≤1000000
structure FmB (f:Fm):Prop where
  few:f.out.length≤9000000
  sk:FmS f
  fd:FdOk f.fields
  p0:0≤f.parts∧f.parts≤12
theorem zcz (m:Str) (hd:Int) (bs:List Int) (p:Int) (fs:List Fld) (pa sk co:Int) (out:List Evt) (hneed:FmB ⟨m,hd,bs,p,none,fs,pa,sk,co,out⟩):Spc Tryd.prog 62 [.v (.one (.ptr 0 0))] [.abs (.fm ⟨m,hd,bs,p,none,fs,pa,sk,co,out⟩)] (.ret (.tup [])) [.abs (.fm ((yD ⟨m,hd,bs,p,none,fs,pa,sk,co,out⟩)))]:=by
  obtain⟨h9,⟨hbs,hml,hh0,hh1,hs0⟩,⟨hfl,hff⟩,hp0⟩:=hneed
  simp only at h9 hbs hml hh0 hh1 hs0 hfl hff hp0
  generalize hr:yD ⟨m,hd,bs,p,none,fs,pa,sk,co,out⟩=r
  have hb:=Sl fs
  unfold yD at hr
  simp only [zG,fmSk,evP,evF,Int.toNat_natCast] at hr
  refine spcG zl mixed Tryd.func62 (by kernel_rfl) { cfgF with keep:=some [0,2,3]} [ZG,ZF,rE,rD,yX,yV,xJ,xI,xM,xK] (by kernel_rfl) ?_
  intro I X hI hX
  refine zi (let y0:=I.hid (α:=(Prop)) (And (Eq bs (xN m)) (And (LE.le (List.length m) 1000000) (And (LE.le (0:Int) (I.hid (α:=Int) (Nat.cast (Prod.fst (Prod.snd (zX m (Int.toNat hd) (UInt8.ofNat (Int.toNat (13:Int))))))))) (And (Or (Eq m ([]:Str)) (LT.lt (I.hid (α:=Int) (Nat.cast (Prod.fst (Prod.snd (zX m (Int.toNat hd) (UInt8.ofNat (Int.toNat (13:Int)))))))) (Nat.cast (List.length m)))) (And (LE.le (0:Int) (10:Int)) (LE.le (10:Int) (255:Int)))))));let y1:=I.hid (α:=(List Go.Ab.Evt)) (HAppend.hAppend out ([(Go.Ab.Evt.mk (5:Int) (Hd.mk ([]:Str) ([]:Str) (0:Int) ([]:List Fld) (0:Int)) ([]:Str) (Go.Ab.Prt.mk (I.hid (α:=Str) (Go.Ab.Prt.name (Prod.fst (yN fs)))) (I.hid (α:=Str) (Go.Ab.Prt.file (Prod.fst (yN fs)))) (I.hid (α:=Str) (Go.Ab.Prt.type (Prod.fst (yN fs)))) ([]:Str)) (0:Int))]:List Go.Ab.Evt));let y2:=I.hid (α:=(Prop)) (And (Eq bs (xN m)) (And (LE.le (List.length m) 1000000) (And (LE.le (0:Int) hd) (And (Or (Eq m ([]:Str)) (LT.lt hd (Nat.cast (List.length m)))) (And (LE.le (0:Int) (13:Int)) (LE.le (13:Int) (255:Int)))))));let y3:=I.hid (α:=Int) (Nat.cast (Prod.fst (Prod.snd (zX m (Int.toNat (I.hid (α:=Int) (Nat.cast (Prod.fst (Prod.snd (zX m (Int.toNat hd) (UInt8.ofNat (Int.toNat (13:Int))))))))) (UInt8.ofNat (Int.toNat (10:Int)))))));let y4:=I.hid (α:=(Prop)) (zM (Go.Ab.Fm.mk m hd bs (6:Int) (Option.none) fs (I.add pa 1) sk co out));let y5:=I.hid (α:=(Prop)) (zM (Go.Ab.Fm.mk m hd bs p (Option.none) fs pa sk co out));let y6:=I.hid (α:=Int) (Prod.snd (yN fs));let y7:=I.hid (α:=Go.Ab.Fm) (zG (Go.Ab.Fm.mk m hd bs p (Option.none) fs pa sk co out) y6);let y8:=I.inr Go.IntKind.i64 (I.add pa 1);.need (I.hid (α:=(Prop)) (And (LE.le (List.length fs) 1000) (∀ (f:Fld),f ∈ fs→List.length f.name≤1000000∧List.length f.value≤1000000))) (.br (I.ieq y6 0) (.br (I.ieq pa 12) (.br (I.bnot (I.ieq 8 0)) (.need y5 (.fin (.ret (.tup [])) [(.abs (.fm (I.hid (α:=Go.Ab.Fm) (zG (Go.Ab.Fm.mk m hd bs p (Option.none) fs pa sk co out) (8:Int)))))])) (.need y8 (.need y4 (.need y2 (.need y0 (.fin (.ret (.tup [])) [(.abs (.fm (Go.Ab.Fm.mk m y3 bs (6:Int) (Option.none) fs (I.add pa 1) (2:Int) co y1)))])))))) (.br (I.bnot (I.ieq y6 0)) (.need y5 (.fin (.ret (.tup [])) [(.abs (.fm y7))])) (.need y8 (.need y4 (.need y2 (.need y0 (.fin (.ret (.tup [])) [(.abs (.fm (Go.Ab.Fm.mk m y3 bs (6:Int) (Option.none) fs (I.add pa 1) (2:Int) co y1)))]))))))) (.br (I.bnot (I.ieq y6 0)) (.need y5 (.fin (.ret (.tup [])) [(.abs (.fm y7))])) (.need y8 (.need y4 (.need y2 (.need y0 (.fin (.ret (.tup [])) [(.abs (.fm (Go.Ab.Fm.mk m y3 bs (6:Int) (Option.none) fs (I.add pa 1) (2:Int) co y1)))])))))))) (by kernel_rfl) ?_
  simp only [zq]
  have hl1:=Za m hd.toNat 13
  generalize yN fs=P at *
  obtain⟨⟨a,b,c,d⟩,e⟩:=P
  simp only at hb hr
  subst hb
  subst hI
  simp only [nrmA,nrmB,nrlB,reduceCtorEq,HO.abs.injEq,Gh.fm.injEq]
  (repeat' (first|refine And.intro ?_ ?_|intro _))<;>first|omega|exact True.intro|exact False.elim ‹False›|skip
  all_goals first
    |omega
    |with_reducible assumption
    |exact(hff _ ‹_›).1
    |exact(hff _ ‹_›).2
    |(unfold zM;simp only [List.length_append,List.length_singleton];omega)
    |exact hl1
    |(subst hr;simp [*,evF,hd0,prt0,zG];done)
theorem zcy (m:Str) (hd:Int) (bs:List Int) (p:Int) (ln:Ln) (fs:List Fld) (pa sk co:Int) (out:List Evt) (hneed:FmB ⟨m,hd,bs,p,some ln,fs,pa,sk,co,out⟩):Spc Tryd.prog 62 [.v (.one (.ptr 0 0))] [.abs (.fm ⟨m,hd,bs,p,some ln,fs,pa,sk,co,out⟩)] (.ret (.tup [])) [.abs (.fm ((yD ⟨m,hd,bs,p,some ln,fs,pa,sk,co,out⟩)))]:=by
  obtain⟨h9,⟨hbs,hml,hh0,hh1,hs0⟩,⟨hfl,hff⟩,hp0⟩:=hneed
  simp only at h9 hbs hml hh0 hh1 hs0 hfl hff hp0
  generalize hr:yD ⟨m,hd,bs,p,some ln,fs,pa,sk,co,out⟩=r
  have hb:=Sl fs
  unfold yD at hr
  simp only [zG,fmSk,evP,evF,Int.toNat_natCast] at hr
  refine spcG zl mixed Tryd.func62 (by kernel_rfl) { cfgF with keep:=some [0,2,3]} [ZG,ZF,rE,rD,yX,yV,xJ,xI,xM,xK] (by kernel_rfl) ?_
  intro I X hI hX
  refine zi (let y0:=I.hid (α:=(Prop)) (And (Eq bs (xN m)) (And (LE.le (List.length m) 1000000) (And (LE.le (0:Int) (I.hid (α:=Int) (Nat.cast (Prod.fst (Prod.snd (zX m (Int.toNat hd) (UInt8.ofNat (Int.toNat (13:Int))))))))) (And (Or (Eq m ([]:Str)) (LT.lt (I.hid (α:=Int) (Nat.cast (Prod.fst (Prod.snd (zX m (Int.toNat hd) (UInt8.ofNat (Int.toNat (13:Int)))))))) (Nat.cast (List.length m)))) (And (LE.le (0:Int) (10:Int)) (LE.le (10:Int) (255:Int)))))));let y1:=I.hid (α:=(List Go.Ab.Evt)) (HAppend.hAppend out ([(Go.Ab.Evt.mk (5:Int) (Hd.mk ([]:Str) ([]:Str) (0:Int) ([]:List Fld) (0:Int)) ([]:Str) (Go.Ab.Prt.mk (I.hid (α:=Str) (Go.Ab.Prt.name (Prod.fst (yN fs)))) (I.hid (α:=Str) (Go.Ab.Prt.file (Prod.fst (yN fs)))) (I.hid (α:=Str) (Go.Ab.Prt.type (Prod.fst (yN fs)))) ([]:Str)) (0:Int))]:List Go.Ab.Evt));let y2:=I.hid (α:=(Prop)) (And (Eq bs (xN m)) (And (LE.le (List.length m) 1000000) (And (LE.le (0:Int) hd) (And (Or (Eq m ([]:Str)) (LT.lt hd (Nat.cast (List.length m)))) (And (LE.le (0:Int) (13:Int)) (LE.le (13:Int) (255:Int)))))));let y3:=I.hid (α:=Int) (Nat.cast (Prod.fst (Prod.snd (zX m (Int.toNat (I.hid (α:=Int) (Nat.cast (Prod.fst (Prod.snd (zX m (Int.toNat hd) (UInt8.ofNat (Int.toNat (13:Int))))))))) (UInt8.ofNat (Int.toNat (10:Int)))))));let y4:=I.hid (α:=(Prop)) (zM (Go.Ab.Fm.mk m hd bs (6:Int) (Option.some (Go.Ab.Ln.mk (Go.Ab.Ln.b ln) (Go.Ab.Ln.cr ln) (Go.Ab.Ln.code ln))) fs (I.add pa 1) sk co out));let y5:=I.hid (α:=(Prop)) (zM (Go.Ab.Fm.mk m hd bs p (Option.some (Go.Ab.Ln.mk (Go.Ab.Ln.b ln) (Go.Ab.Ln.cr ln) (Go.Ab.Ln.code ln))) fs pa sk co out));let y6:=I.hid (α:=Go.Ab.Fm) (zG (Go.Ab.Fm.mk m hd bs p (Option.some (Go.Ab.Ln.mk (Go.Ab.Ln.b ln) (Go.Ab.Ln.cr ln) (Go.Ab.Ln.code ln))) fs pa sk co out) (I.hid (α:=Int) (Prod.snd (yN fs))));let y7:=I.ieq (I.hid (α:=Int) (Prod.snd (yN fs))) 0;let y8:=I.inr Go.IntKind.i64 (I.add pa 1);.need (I.hid (α:=(Prop)) (And (LE.le (List.length fs) 1000) (∀ (f:Fld),f ∈ fs→List.length f.name≤1000000∧List.length f.value≤1000000))) (.br y7 (.br (I.ieq pa 12) (.br (I.bnot (I.ieq 8 0)) (.need y5 (.fin (.ret (.tup [])) [(.abs (.fm (I.hid (α:=Go.Ab.Fm) (zG (Go.Ab.Fm.mk m hd bs p (Option.some (Go.Ab.Ln.mk (Go.Ab.Ln.b ln) (Go.Ab.Ln.cr ln) (Go.Ab.Ln.code ln))) fs pa sk co out) (8:Int)))))])) (.need y8 (.need y4 (.need y2 (.need y0 (.fin (.ret (.tup [])) [(.abs (.fm (Go.Ab.Fm.mk m y3 bs (6:Int) (Option.some (Go.Ab.Ln.mk (Go.Ab.Ln.b ln) (Go.Ab.Ln.cr ln) (Go.Ab.Ln.code ln))) fs (I.add pa 1) (2:Int) co y1)))])))))) (.br (I.bnot y7) (.need y5 (.fin (.ret (.tup [])) [(.abs (.fm y6))])) (.need y8 (.need y4 (.need y2 (.need y0 (.fin (.ret (.tup [])) [(.abs (.fm (Go.Ab.Fm.mk m y3 bs (6:Int) (Option.some (Go.Ab.Ln.mk (Go.Ab.Ln.b ln) (Go.Ab.Ln.cr ln) (Go.Ab.Ln.code ln))) fs (I.add pa 1) (2:Int) co y1)))]))))))) (.br (I.bnot y7) (.need y5 (.fin (.ret (.tup [])) [(.abs (.fm y6))])) (.need y8 (.need y4 (.need y2 (.need y0 (.fin (.ret (.tup [])) [(.abs (.fm (Go.Ab.Fm.mk m y3 bs (6:Int) (Option.some (Go.Ab.Ln.mk (Go.Ab.Ln.b ln) (Go.Ab.Ln.cr ln) (Go.Ab.Ln.code ln))) fs (I.add pa 1) (2:Int) co y1)))])))))))) (by kernel_rfl) ?_
  simp only [zq]
  have hl1:=Za m hd.toNat 13
  generalize yN fs=P at *
  obtain⟨⟨a,b,c,d⟩,e⟩:=P
  simp only at hb hr
  subst hb
  subst hI
  simp only [nrmA,nrmB,nrlB,reduceCtorEq,HO.abs.injEq,Gh.fm.injEq]
  (repeat' (first|refine And.intro ?_ ?_|intro _))<;>first|omega|exact True.intro|exact False.elim ‹False›|skip
  all_goals first
    |omega
    |with_reducible assumption
    |exact(hff _ ‹_›).1
    |exact(hff _ ‹_›).2
    |(unfold zM;simp only [List.length_append,List.length_singleton];omega)
    |exact hl1
    |(subst hr;simp [*,evF,hd0,prt0,zG];done)
theorem zdV (f:Fm) (hneed:FmB f):Spc Tryd.prog 62 [.v (.one (.ptr 0 0))] [.abs (.fm f)] (.ret (.tup [])) [.abs (.fm ((yD f)))]:=by
  obtain⟨m,hd,bs,p,ln,fs,pa,sk,co,out⟩:=f
  cases ln with
  |none=>exact zcz m hd bs p fs pa sk co out hneed
  |some ln=>exact zcy m hd bs p ln fs pa sk co out hneed
def sZ (I:Alg) (args:List D) (hp:List HO):Option CT:=match args,hp with
  |[.v (.one (.ptr 0 0))],[.abs (.fm f)]=>(fun(f:Fm)=>(some (.one ⟨I.hid (FmB f),(.ret (.tup [])),[.abs (.fm (I.hid ((yD f))))]⟩):Option CT)) f
  |_,_=>none
theorem WO:zy Tryd.prog 62 (sZ alg):=by
  intro args hp r h
  unfold sZ at h
  split at h
  · cases h;exact fun hn=>zdV _ hn
  · cases h
def WN:Know Tryd.prog:=⟨62,sZ,WO⟩
def WM:Know Tryd.prog:=⟨62,fun I=>zC I (sZ I),zf WO⟩
theorem zdM (m:Str) (hd:Int) (bs:List Int) (p:Int) (fs:List Fld) (pa sk co:Int) (out:List Evt) (s:Str) (hneed:FmB ⟨m,hd,bs,p,none,fs,pa,sk,co,out⟩∧s.length≤1000000):Spc Tryd.prog 47 [.v (.one (.ptr 0 0)),.v (.one (.p (.str s)))] [.abs (.fm ⟨m,hd,bs,p,none,fs,pa,sk,co,out⟩)] (.ret (.tup [])) [.abs (.fm ((xk ⟨m,hd,bs,p,none,fs,pa,sk,co,out⟩ s)))]:=by
  obtain⟨⟨h9,hS,⟨hfl,hff⟩,hp0⟩,hs⟩:=hneed
  simp only at h9 hfl hff hp0
  generalize hr:xk ⟨m,hd,bs,p,none,fs,pa,sk,co,out⟩ s=r
  unfold xk at hr
  simp only at hr
  refine spcG zl mixed Tryd.func47 (by kernel_rfl) { cfgF with keep:=some [0,1,4,5]} [Qp,Qo,xM,xK,WN,WM] (by kernel_rfl) ?_
  intro I X hI hX
  refine zi (let y3:=I.hid (α:=Str) (Fld.name (Prod.fst (yL s)));let y2:=I.hid (α:=Str) (Fld.value (Prod.fst (yL s)));let y0:=I.few (I.add (I.len (α:=Fld) fs) (I.len (α:=Fld) ([(Fld.mk y3 y2)]:List Fld))) 100000000;let y1:=I.hid (α:=(Prop)) (zM (Go.Ab.Fm.mk m hd bs p (Option.none) fs pa sk co out));let y4:=I.hid (α:=Int) (Prod.snd (yL s));.br (I.seq s ([]:Str)) (.need (I.hid (α:=(Prop)) (FmB (Go.Ab.Fm.mk m hd bs p (Option.none) fs pa sk co out))) (.fin (.ret (.tup [])) [(.abs (.fm (I.hid (α:=Go.Ab.Fm) (yD (Go.Ab.Fm.mk m hd bs p (Option.none) fs pa sk co out)))))])) (.br (I.ieq (I.len (α:=Fld) fs) 16) (.need y1 (.fin (.ret (.tup [])) [(.abs (.fm (I.hid (α:=Go.Ab.Fm) (zG (Go.Ab.Fm.mk m hd bs p (Option.none) fs pa sk co out) (8:Int)))))])) (.need (I.hid (α:=(Prop)) (LE.le (List.length s) 1000000)) (.br (I.bnot (I.ieq y4 0)) (.need y1 (.fin (.ret (.tup [])) [(.abs (.fm (I.hid (α:=Go.Ab.Fm) (zG (Go.Ab.Fm.mk m hd bs p (Option.none) fs pa sk co out) y4))))])) (.both (.need y0 (.fin (.ret (.tup [])) [(.abs (.fm (Go.Ab.Fm.mk m hd bs p (Option.none) (I.app (α:=Fld) fs ([(Fld.mk y3 y2)]:List Fld)) pa sk co out)))])) (.need y0 (.fin (.ret (.tup [])) [(.abs (.fm (Go.Ab.Fm.mk m hd bs p (Option.none) (I.app (α:=Fld) fs ([(Fld.mk y3 y2)]:List Fld)) pa sk co out)))]))))))) (by kernel_rfl) ?_
  simp only [zq]
  generalize yL s=y at *
  obtain⟨⟨a,b⟩,e⟩:=y
  subst hI
  simp only [nrmA,nrmB,nrlB,reduceCtorEq,HO.abs.injEq,Gh.fm.injEq]
  (repeat' (first|refine And.intro ?_ ?_|intro _))<;>first|omega|exact True.intro|exact False.elim ‹False›|skip
  all_goals first
    |omega
    |with_reducible assumption
    |exact⟨h9,hS,⟨hfl,hff⟩,hp0⟩
    |(unfold zM;simp only;omega)
    |(simp only [List.length_singleton];omega)
    |(subst hr;simp [*,zG];done)
    |(subst hr;rw [if_pos ‹s=[]›];done)
    |(subst hr;rw [if_neg ‹¬ s=[]›,if_pos (by omega)];done)
    |(subst hr;rw [if_neg ‹¬ s=[]›,if_neg (by omega),if_pos ‹¬ e=0›];done)
    |(subst hr;rw [if_neg ‹¬ s=[]›,if_neg (by omega),if_neg (fun h=>h ‹e=0›)];done)
theorem zdL (m:Str) (hd:Int) (bs:List Int) (p:Int) (ln:Ln) (fs:List Fld) (pa sk co:Int) (out:List Evt) (s:Str) (hneed:FmB ⟨m,hd,bs,p,some ln,fs,pa,sk,co,out⟩∧s.length≤1000000):Spc Tryd.prog 47 [.v (.one (.ptr 0 0)),.v (.one (.p (.str s)))] [.abs (.fm ⟨m,hd,bs,p,some ln,fs,pa,sk,co,out⟩)] (.ret (.tup [])) [.abs (.fm ((xk ⟨m,hd,bs,p,some ln,fs,pa,sk,co,out⟩ s)))]:=by
  obtain⟨⟨h9,hS,⟨hfl,hff⟩,hp0⟩,hs⟩:=hneed
  simp only at h9 hfl hff hp0
  generalize hr:xk ⟨m,hd,bs,p,some ln,fs,pa,sk,co,out⟩ s=r
  unfold xk at hr
  simp only at hr
  refine spcG zl mixed Tryd.func47 (by kernel_rfl) { cfgF with keep:=some [0,1,4,5]} [Qp,Qo,xM,xK,WN,WM] (by kernel_rfl) ?_
  intro I X hI hX
  refine zi (let y3:=I.hid (α:=Str) (Fld.name (Prod.fst (yL s)));let y2:=I.hid (α:=Str) (Fld.value (Prod.fst (yL s)));let y0:=I.few (I.add (I.len (α:=Fld) fs) (I.len (α:=Fld) ([(Fld.mk y3 y2)]:List Fld))) 100000000;let y1:=I.hid (α:=(Prop)) (zM (Go.Ab.Fm.mk m hd bs p (Option.some (Go.Ab.Ln.mk (Go.Ab.Ln.b ln) (Go.Ab.Ln.cr ln) (Go.Ab.Ln.code ln))) fs pa sk co out));let y4:=I.hid (α:=Int) (Prod.snd (yL s));.br (I.seq s ([]:Str)) (.need (I.hid (α:=(Prop)) (FmB (Go.Ab.Fm.mk m hd bs p (Option.some ln) fs pa sk co out))) (.fin (.ret (.tup [])) [(.abs (.fm (I.hid (α:=Go.Ab.Fm) (yD (Go.Ab.Fm.mk m hd bs p (Option.some ln) fs pa sk co out)))))])) (.br (I.ieq (I.len (α:=Fld) fs) 16) (.need y1 (.fin (.ret (.tup [])) [(.abs (.fm (I.hid (α:=Go.Ab.Fm) (zG (Go.Ab.Fm.mk m hd bs p (Option.some (Go.Ab.Ln.mk (Go.Ab.Ln.b ln) (Go.Ab.Ln.cr ln) (Go.Ab.Ln.code ln))) fs pa sk co out) (8:Int)))))])) (.need (I.hid (α:=(Prop)) (LE.le (List.length s) 1000000)) (.br (I.bnot (I.ieq y4 0)) (.need y1 (.fin (.ret (.tup [])) [(.abs (.fm (I.hid (α:=Go.Ab.Fm) (zG (Go.Ab.Fm.mk m hd bs p (Option.some (Go.Ab.Ln.mk (Go.Ab.Ln.b ln) (Go.Ab.Ln.cr ln) (Go.Ab.Ln.code ln))) fs pa sk co out) y4))))])) (.both (.need y0 (.fin (.ret (.tup [])) [(.abs (.fm (Go.Ab.Fm.mk m hd bs p (Option.some (Go.Ab.Ln.mk (Go.Ab.Ln.b ln) (Go.Ab.Ln.cr ln) (Go.Ab.Ln.code ln))) (I.app (α:=Fld) fs ([(Fld.mk y3 y2)]:List Fld)) pa sk co out)))])) (.need y0 (.fin (.ret (.tup [])) [(.abs (.fm (Go.Ab.Fm.mk m hd bs p (Option.some (Go.Ab.Ln.mk (Go.Ab.Ln.b ln) (Go.Ab.Ln.cr ln) (Go.Ab.Ln.code ln))) (I.app (α:=Fld) fs ([(Fld.mk y3 y2)]:List Fld)) pa sk co out)))]))))))) (by kernel_rfl) ?_
  simp only [zq]
  generalize yL s=y at *
  obtain⟨⟨a,b⟩,e⟩:=y
  subst hI
  simp only [nrmA,nrmB,nrlB,reduceCtorEq,HO.abs.injEq,Gh.fm.injEq]
  (repeat' (first|refine And.intro ?_ ?_|intro _))<;>first|omega|exact True.intro|exact False.elim ‹False›|skip
  all_goals first
    |omega
    |with_reducible assumption
    |exact⟨h9,hS,⟨hfl,hff⟩,hp0⟩
    |(unfold zM;simp only;omega)
    |(simp only [List.length_singleton];omega)
    |(subst hr;simp [*,zG];done)
    |(subst hr;rw [if_pos ‹s=[]›];done)
    |(subst hr;rw [if_neg ‹¬ s=[]›,if_pos (by omega)];done)
    |(subst hr;rw [if_neg ‹¬ s=[]›,if_neg (by omega),if_pos ‹¬ e=0›];done)
    |(subst hr;rw [if_neg ‹¬ s=[]›,if_neg (by omega),if_neg (fun h=>h ‹e=0›)];done)
theorem zfv (f:Fm) (s:Str) (hneed:FmB f∧s.length≤1000000):Spc Tryd.prog 47 [.v (.one (.ptr 0 0)),.v (.one (.p (.str s)))] [.abs (.fm f)] (.ret (.tup [])) [.abs (.fm ((xk f s)))]:=by
  obtain⟨m,hd,bs,p,ln,fs,pa,sk,co,out⟩:=f
  cases ln with
  |none=>exact zdM m hd bs p fs pa sk co out s hneed
  |some ln=>exact zdL m hd bs p ln fs pa sk co out s hneed
def qX (I:Alg) (args:List D) (hp:List HO):Option CT:=match args,hp with
  |[.v (.one (.ptr 0 0)),.v (.one (.p (.str s)))],[.abs (.fm f)]=>(fun(f:Fm) (s:Str)=>(some (.one ⟨I.hid (FmB f∧s.length≤1000000),(.ret (.tup [])),[.abs (.fm (I.hid ((xk f s))))]⟩):Option CT)) f s
  |_,_=>none
theorem U5:zy Tryd.prog 47 (qX alg):=by
  intro args hp r h
  unfold qX at h
  split at h
  · cases h;exact fun hn=>zfv _ _ hn
  · cases h
def U4:Know Tryd.prog:=⟨47,qX,U5⟩
def U3:Know Tryd.prog:=⟨47,fun I=>zC I (qX I),zf U5⟩
end Go.Proofs.YtknaogelmckimaaDoor
namespace Go.Proofs.YtknaogelmckimaaDoor
open Go Go.Sep Go.Ab
set_option maxRecDepth 100000
theorem zbF (s:Str):(yL s).1.name.length≤s.length∧(yL s).1.value.length≤s.length:=by
  have h:=zam s 58
  have ht:=Qd (cutB s 58).2.1 [32,9]
  unfold yL
  repeat' split
  all_goals simp only [List.length_nil]
  all_goals omega
end Go.Proofs.YtknaogelmckimaaDoor
namespace Go.Proofs.YtknaogelmckimaaDoor
open Go Go.Sep Go.Ab
set_option maxRecDepth 100000
structure FmI (f:Fm) (i:Nat):Prop where
  bs:f.bs=xN f.mark
  ml:f.mark.length≤1000
  h0:0≤f.held
  h1:f.held<f.mark.length
  s0:0≤f.skip∧f.skip≤2
  p0:0≤f.parts∧f.parts≤12
  fl:f.fields.length≤16
  ff: ∀ x ∈ f.fields,x.name.length≤i∧x.value.length≤i
  lb: ∀ l,f.ln=some l→l.b.length≤i
  p5:f.pos=5→f.ln≠none
  on:f.out.length≤4 * i
theorem WB {f:Fm} {i:Nat} (h:FmI f i) (c:UInt8):FmI (fmSk f c) i:=by
  have hl:=(Za f.mark f.held.toNat c).resolve_left fun e=>by have h1:=h.h1;have h0:=h.h0;rw [e,List.length_nil] at h1;omega
  exact⟨h.bs,h.ml,Int.natCast_nonneg _,hl,h.s0,h.p0,h.fl,h.ff,h.lb,h.p5,h.on⟩
theorem QZ {f:Fm} {i j:Nat} (h:FmI f i) (k:i≤j):FmI f j:=by
  obtain⟨a,b,c,d,e,f1,g,h1,h2,h3,h4⟩:=h
  exact⟨a,b,c,d,e,f1,g,fun x m=>by have:=h1 x m;omega,fun l e=>by have:=h2 l e;omega,h3,by omega⟩
theorem tH {f:Fm} {i:Nat} (h:FmI f i) {p co sk pa:Int} {o:List Evt} (ho:o.length≤4 * i) (hp:p=5→f.ln≠none) (hs:0≤sk∧sk≤2) (hpa:0≤pa∧pa≤12):FmI { f with pos:=p,code:=co,out:=o,skip:=sk,parts:=pa} i:=
  ⟨h.bs,h.ml,h.h0,h.h1,hs,hpa,h.fl,h.ff,h.lb,hp,ho⟩
theorem ug {f:Fm} {i:Nat} (h:FmI f i) (ho:f.out.length+1≤4 * i) (c:Int):FmI (zG f c) i:=
  tH h (by simp only [List.length_append,List.length_singleton];omega) (fun h=>absurd h (by decide)) h.s0 h.p0
theorem za9 {f:Fm} {i:Nat} (h:FmI f i) (ho:f.out.length+1≤4 * i) (c:UInt8):FmI (yc f c) i:=by
  unfold yc
  repeat' split
  · exact tH h h.on (fun h=>absurd h (by decide)) h.s0 h.p0
  · exact tH h (by simp only [List.length_append,List.length_singleton];omega) (fun h=>absurd h (by decide)) h.s0 h.p0
  · exact tH h h.on (fun h=>absurd h (by decide)) h.s0 h.p0
  · exact tH h h.on (fun h=>absurd h (by decide)) h.s0 h.p0
  · exact ug h ho 5
theorem zcw {f:Fm} {i:Nat} (h:FmI f i) (ho:f.out.length+2≤4 * i) (c:UInt8):FmI (yO f c) i:=by
  have hs:=WB h c
  have h2:=h.s0
  unfold yO
  split
  · refine tH (f:=fmSk f c) hs ?_ h.p5 ?_ h.p0
    · split
      · simp only [List.length_append,List.length_singleton];omega
      · exact h.on
    · rw [Int.min_def]
      split<;>omega
  · refine tH (f:=fmSk f c) hs ?_ (fun h=>absurd h (by decide)) (by decide) h.p0
    repeat' split
    all_goals first|exact h.on|(simp only [List.length_append,List.length_singleton,List.length_cons,List.length_nil];omega)
theorem zcA {f:Fm} {i:Nat} (h:FmI f i) (ho:f.out.length+1≤4 * i):FmI (yD f) i:=by
  have h2:=h.p0
  unfold yD
  split
  · exact ug h ho _
  · split
    · exact ug h ho _
    · refine WB (WB ?_ _) _
      exact tH h (by simp only [List.length_append,List.length_singleton];omega) (fun h=>absurd h (by decide)) (by decide) (by omega)
theorem zdN {f:Fm} {i:Nat} (h:FmI f i) (ho:f.out.length+1≤4 * i) {s:Str} (hs:s.length≤i):FmI (xk f s) i:=by
  unfold xk
  split
  · exact zcA h ho
  · split
    · exact ug h ho _
    · split
      · exact ug h ho _
      · rename_i h16 _
        have hp:=zbF s
        refine⟨h.bs,h.ml,h.h0,h.h1,h.s0,h.p0,?_,fun x hx=> ?_,h.lb,h.p5,h.on⟩
        · have:=h.fl
          simp only [List.length_append,List.length_singleton];omega
        · rcases List.mem_append.1 hx with h5|h5
          · exact h.ff x h5
          · rw [List.mem_singleton.1 h5];omega
theorem zdS {f:Fm} {i:Nat} (h:FmI f i) (c:UInt8):FmI (fmF f c) (i+1):=by
  have hm:=QZ h (show i≤i+1 by omega)
  have ho:f.out.length+2≤4 * (i+1):=by have:=h.on;omega
  unfold fmF
  split
  · exact zcw hm ho c
  · split
    · exact za9 hm (by omega) c
    · split
      · split
        · exact ug hm (by omega) 2
        · exact⟨hm.bs,hm.ml,hm.h0,hm.h1,hm.s0,hm.p0,by simp,(fun x hx=>by cases hx),(fun l e=>by cases e;simp [ln0]),(fun _ e=>by cases e),hm.on⟩
      · split
        · have hb:=zgn (lnOf f) c
          have hl:=zb1 (lnOf f) c
          have hn:(lnOf f).b.length≤i:=by
            unfold lnOf
            cases e:f.ln with
            |none=>simp [ln0]
            |some l=>exact h.lb l e
          have hk:FmI { f with ln:=some (lnF (lnOf f) c).1} (i+1):=⟨hm.bs,hm.ml,hm.h0,hm.h1,hm.s0,hm.p0,hm.fl,hm.ff,(fun l e=>by cases e;omega),(fun _ e=>by cases e),hm.on⟩
          split
          · exact ug hk (by simp only;omega) _
          · split
            · exact zdN hk (by simp only;omega) (by omega)
            · exact hk
        · exact hm
theorem zdE (k:Int) (hneed:False):Spc Tryd.prog 46 [.v (.one (.p (.val (.pointer none)))),.v (.one (.p (.int .u8 k)))] [] (.ret (.tup [(.one (.p (.str ([])))),(.one (.p (.bool false))),(.one (.p (.int .i64 0)))])) []:=hneed.elim
def sK (I:Alg) (args:List D) (hp:List HO):Option CT:=match args,hp with
  |[.v (.one (.p (.val (.pointer none)))),.v (.one (.p (.int .u8 k)))],[]=>(fun(k:Int)=>(some (.one ⟨I.hid (False),(.ret (.tup [(.one (.p (.str (I.hid ([]))))),(.one (.p (.bool false))),(.one (.p (.int .i64 0)))])),[]⟩):Option CT)) k
  |_,_=>none
theorem Wi:zy Tryd.prog 46 (sK alg):=by
  intro args hp r h
  unfold sK at h
  split at h
  · cases h;exact fun hn=>zdE _ hn
  · cases h
def Wh:Know Tryd.prog:=⟨46,sK,Wi⟩
def X9:Know Tryd.prog:=⟨46,fun I=>zC I (sK I),zf Wi⟩
def fmN (f:Fm):Prop:=∃ i:Nat,i≤1000000∧FmI f i
theorem zfz (m:Str) (hd:Int) (bs:List Int) (p:Int) (fs:List Fld) (pa sk co:Int) (out:List Evt) (k:Int) (hneed:fmN ⟨m,hd,bs,p,none,fs,pa,sk,co,out⟩∧0≤k∧k≤255):Spc Tryd.prog 24 [.v (.one (.ptr 0 0)),.v (.one (.p (.int .u8 k)))] [.abs (.fm ⟨m,hd,bs,p,none,fs,pa,sk,co,out⟩)] (.ret (.tup [])) [.abs (.fm ((fmF ⟨m,hd,bs,p,none,fs,pa,sk,co,out⟩ (UInt8.ofNat k.toNat))))]:=by
  obtain⟨⟨i,hi,hI0⟩,hk0,hk1⟩:=hneed
  obtain⟨g1,g2,g3,g4,g5,g6,g7,g8,g9,g10,g11⟩:=hI0
  simp only at g1 g2 g3 g4 g5 g6 g7 g8 g9 g10 g11
  have g2:=Nat.le_trans g2 (show 1000≤1000000 by decide)
  have hfd:FdOk fs:=⟨by omega,fun x hx=>by have:=g8 x hx;omega⟩
  have h10:=u8k hk0 hk1 10 (by decide)
  have h10:(UInt8.ofNat k.toNat=10)=(k=10):=h10
  generalize hr:fmF ⟨m,hd,bs,p,none,fs,pa,sk,co,out⟩ (UInt8.ofNat k.toNat)=r
  unfold fmF lnOf at hr
  simp only [h10] at hr
  have hll:=trivial
  refine spcG zl mixed Tryd.func24 (by kernel_rfl) { cfgF with keep:=some [0,1,4,5,6,10,11,17]} [QH,QG,Um,Ul,Wh,X9,xM,xK,Xq,Xp,WI,WH,U4,U3] (by kernel_rfl) ?_
  intro I X hI hX
  refine zi (let y0:=I.hid (α:=(Prop)) (And (zM (Go.Ab.Fm.mk m hd bs p (Option.none) fs pa sk co out)) (And (LE.le (0:Int) k) (LE.le k (255:Int))));let y1:=I.hid (α:=Go.Ab.Fm) (yc (Go.Ab.Fm.mk m hd bs p (Option.none) fs pa sk co out) (UInt8.ofNat (Int.toNat k)));let y2:=I.hid (α:=(Prop)) (And (fm9 (Go.Ab.Fm.mk m hd bs p (Option.none) fs pa sk co out)) (And (FmS (Go.Ab.Fm.mk m hd bs p (Option.none) fs pa sk co out)) (And (LE.le (0:Int) k) (LE.le k (255:Int)))));let y3:=I.hid (α:=Go.Ab.Fm) (yO (Go.Ab.Fm.mk m hd bs p (Option.none) fs pa sk co out) (UInt8.ofNat (Int.toNat k)));let y4:=I.hid (α:=(Prop)) (zM (Go.Ab.Fm.mk m hd bs p (Option.none) fs pa sk co out));.br (I.ieq p 0) (.need y2 (.fin (.ret (.tup [])) [(.abs (.fm y3))])) (.br (I.ieq p 6) (.need y2 (.fin (.ret (.tup [])) [(.abs (.fm y3))])) (.br (I.ieq p 1) (.need y0 (.fin (.ret (.tup [])) [(.abs (.fm y1))])) (.br (I.ieq p 2) (.need y0 (.fin (.ret (.tup [])) [(.abs (.fm y1))])) (.br (I.ieq p 3) (.need y0 (.fin (.ret (.tup [])) [(.abs (.fm y1))])) (.br (I.ieq p 4) (.br (I.bnot (I.ieq k 10)) (.need y4 (.fin (.ret (.tup [])) [(.abs (.fm (I.hid (α:=Go.Ab.Fm) (zG (Go.Ab.Fm.mk m hd bs p (Option.none) fs pa sk co out) (2:Int)))))])) (.need (I.hid (α:=(Prop)) True) (.fin (.ret (.tup [])) [(.abs (.fm (Go.Ab.Fm.mk m hd bs (5:Int) (Option.some (Go.Ab.Ln.mk (I.hid (α:=Str) ([]:Str)) Bool.false (0:Int))) ([]:List Fld) pa sk co out)))]))) (.br (I.ieq p 5) (.need (I.hid (α:=(Prop)) False) (.br (I.bnot (I.ieq 0 0)) (.need y4 (.fin (.ret (.tup [])) [(.abs (.fm (I.hid (α:=Go.Ab.Fm) (zG (Go.Ab.Fm.mk m hd bs p (Option.none) fs pa sk co out) (0:Int)))))])) (.br Bool.false (.need (I.hid (α:=(Prop)) (And (FmB (Go.Ab.Fm.mk m hd bs p (Option.none) fs pa sk co out)) (LE.le (List.length (I.hid (α:=Str) ([]:Str))) 1000000))) (.fin (.ret (.tup [])) [(.abs (.fm (I.hid (α:=Go.Ab.Fm) (xk (Go.Ab.Fm.mk m hd bs p (Option.none) fs pa sk co out) (I.hid (α:=Str) ([]:Str))))))])) (.fin (.ret (.tup [])) [(.abs (.fm (Go.Ab.Fm.mk m hd bs p (Option.none) fs pa sk co out)))])))) (.fin (.ret (.tup [])) [(.abs (.fm (Go.Ab.Fm.mk m hd bs p (Option.none) fs pa sk co out)))])))))))) (by kernel_rfl) ?_
  simp only [zq]
  subst hI
  simp only [nrmA,nrmB,nrlB,reduceCtorEq,HO.abs.injEq,Gh.fm.injEq]
  (repeat' (first|refine And.intro ?_ ?_|intro _))<;>first|omega|exact True.intro|exact False.elim ‹False›|skip
  all_goals first
    |omega
    |with_reducible assumption
    |(refine⟨by simp only;omega,⟨g1,g2,g3,.inr g4,g5⟩,?_⟩;done)
    |exact⟨g1,g2,g3,.inr g4,g5⟩
    |exact⟨by simp only;omega,⟨g1,g2,g3,.inr g4,g5⟩,hfd,g6⟩
    |exact Nat.le_trans hll (by omega)
    |(unfold zM;simp only;omega)
    |(unfold fm9;simp only;omega)
    |(exact absurd rfl (g10 ‹_›))
    |(subst hr;simp [*,ln0];done)
theorem zfy (m:Str) (hd:Int) (bs:List Int) (p:Int) (ln:Ln) (fs:List Fld) (pa sk co:Int) (out:List Evt) (k:Int) (hneed:fmN ⟨m,hd,bs,p,some ln,fs,pa,sk,co,out⟩∧0≤k∧k≤255):Spc Tryd.prog 24 [.v (.one (.ptr 0 0)),.v (.one (.p (.int .u8 k)))] [.abs (.fm ⟨m,hd,bs,p,some ln,fs,pa,sk,co,out⟩)] (.ret (.tup [])) [.abs (.fm ((fmF ⟨m,hd,bs,p,some ln,fs,pa,sk,co,out⟩ (UInt8.ofNat k.toNat))))]:=by
  obtain⟨⟨i,hi,hI0⟩,hk0,hk1⟩:=hneed
  obtain⟨g1,g2,g3,g4,g5,g6,g7,g8,g9,g10,g11⟩:=hI0
  simp only at g1 g2 g3 g4 g5 g6 g7 g8 g9 g10 g11
  have g2:=Nat.le_trans g2 (show 1000≤1000000 by decide)
  have hfd:FdOk fs:=⟨by omega,fun x hx=>by have:=g8 x hx;omega⟩
  have h10:=u8k hk0 hk1 10 (by decide)
  have h10:(UInt8.ofNat k.toNat=10)=(k=10):=h10
  generalize hr:fmF ⟨m,hd,bs,p,some ln,fs,pa,sk,co,out⟩ (UInt8.ofNat k.toNat)=r
  unfold fmF lnOf at hr
  simp only [h10] at hr
  have hll:=zb1 ln (UInt8.ofNat k.toNat)
  have hlb:=g9 ln rfl
  refine spcG zl mixed Tryd.func24 (by kernel_rfl) { cfgF with keep:=some [0,1,4,5,6,10,11,17]} [QH,QG,Um,Ul,Wh,X9,xM,xK,Xq,Xp,WI,WH,U4,U3] (by kernel_rfl) ?_
  intro I X hI hX
  refine zi (let y0:=I.hid (α:=Int) (Go.Ab.Ln.code (Prod.fst (lnF (Go.Ab.Ln.mk (Go.Ab.Ln.b ln) (Go.Ab.Ln.cr ln) (Go.Ab.Ln.code ln)) (UInt8.ofNat (Int.toNat k)))));let y1:=I.hid (α:=Bool) (Go.Ab.Ln.cr (Prod.fst (lnF (Go.Ab.Ln.mk (Go.Ab.Ln.b ln) (Go.Ab.Ln.cr ln) (Go.Ab.Ln.code ln)) (UInt8.ofNat (Int.toNat k)))));let y2:=I.hid (α:=Str) (Go.Ab.Ln.b (Prod.fst (lnF (Go.Ab.Ln.mk (Go.Ab.Ln.b ln) (Go.Ab.Ln.cr ln) (Go.Ab.Ln.code ln)) (UInt8.ofNat (Int.toNat k)))));let y3:=I.hid (α:=(Prop)) (And (zM (Go.Ab.Fm.mk m hd bs p (Option.some (Go.Ab.Ln.mk (Go.Ab.Ln.b ln) (Go.Ab.Ln.cr ln) (Go.Ab.Ln.code ln))) fs pa sk co out)) (And (LE.le (0:Int) k) (LE.le k (255:Int))));let y4:=I.hid (α:=Go.Ab.Fm) (yc (Go.Ab.Fm.mk m hd bs p (Option.some (Go.Ab.Ln.mk (Go.Ab.Ln.b ln) (Go.Ab.Ln.cr ln) (Go.Ab.Ln.code ln))) fs pa sk co out) (UInt8.ofNat (Int.toNat k)));let y5:=I.hid (α:=(Prop)) (And (fm9 (Go.Ab.Fm.mk m hd bs p (Option.some (Go.Ab.Ln.mk (Go.Ab.Ln.b ln) (Go.Ab.Ln.cr ln) (Go.Ab.Ln.code ln))) fs pa sk co out)) (And (FmS (Go.Ab.Fm.mk m hd bs p (Option.some (Go.Ab.Ln.mk (Go.Ab.Ln.b ln) (Go.Ab.Ln.cr ln) (Go.Ab.Ln.code ln))) fs pa sk co out)) (And (LE.le (0:Int) k) (LE.le k (255:Int)))));let y6:=I.hid (α:=Go.Ab.Fm) (yO (Go.Ab.Fm.mk m hd bs p (Option.some (Go.Ab.Ln.mk (Go.Ab.Ln.b ln) (Go.Ab.Ln.cr ln) (Go.Ab.Ln.code ln))) fs pa sk co out) (UInt8.ofNat (Int.toNat k)));let y7:=I.hid (α:=Int) (Prod.snd (Prod.snd (Prod.snd (lnF (Go.Ab.Ln.mk (Go.Ab.Ln.b ln) (Go.Ab.Ln.cr ln) (Go.Ab.Ln.code ln)) (UInt8.ofNat (Int.toNat k))))));let y8:=I.hid (α:=Str) (Prod.fst (Prod.snd (lnF (Go.Ab.Ln.mk (Go.Ab.Ln.b ln) (Go.Ab.Ln.cr ln) (Go.Ab.Ln.code ln)) (UInt8.ofNat (Int.toNat k)))));.br (I.ieq p 0) (.need y5 (.fin (.ret (.tup [])) [(.abs (.fm y6))])) (.br (I.ieq p 6) (.need y5 (.fin (.ret (.tup [])) [(.abs (.fm y6))])) (.br (I.ieq p 1) (.need y3 (.fin (.ret (.tup [])) [(.abs (.fm y4))])) (.br (I.ieq p 2) (.need y3 (.fin (.ret (.tup [])) [(.abs (.fm y4))])) (.br (I.ieq p 3) (.need y3 (.fin (.ret (.tup [])) [(.abs (.fm y4))])) (.br (I.ieq p 4) (.br (I.bnot (I.ieq k 10)) (.need (I.hid (α:=(Prop)) (zM (Go.Ab.Fm.mk m hd bs p (Option.some (Go.Ab.Ln.mk (Go.Ab.Ln.b ln) (Go.Ab.Ln.cr ln) (Go.Ab.Ln.code ln))) fs pa sk co out))) (.fin (.ret (.tup [])) [(.abs (.fm (I.hid (α:=Go.Ab.Fm) (zG (Go.Ab.Fm.mk m hd bs p (Option.some (Go.Ab.Ln.mk (Go.Ab.Ln.b ln) (Go.Ab.Ln.cr ln) (Go.Ab.Ln.code ln))) fs pa sk co out) (2:Int)))))])) (.need (I.hid (α:=(Prop)) True) (.fin (.ret (.tup [])) [(.abs (.fm (Go.Ab.Fm.mk m hd bs (5:Int) (Option.some (Go.Ab.Ln.mk (I.hid (α:=Str) ([]:Str)) Bool.false (0:Int))) ([]:List Fld) pa sk co out)))]))) (.br (I.ieq p 5) (.need (I.hid (α:=(Prop)) (And (LE.le (0:Int) k) (And (LE.le k (255:Int)) (LE.le (List.length (Go.Ab.Ln.b ln)) 1000000)))) (.br (I.bnot (I.ieq y7 0)) (.need (I.hid (α:=(Prop)) (zM (Go.Ab.Fm.mk m hd bs p (Option.some (Go.Ab.Ln.mk y2 y1 y0)) fs pa sk co out))) (.fin (.ret (.tup [])) [(.abs (.fm (I.hid (α:=Go.Ab.Fm) (zG (Go.Ab.Fm.mk m hd bs p (Option.some (Go.Ab.Ln.mk y2 y1 y0)) fs pa sk co out) y7))))])) (.br (I.hid (α:=Bool) (Prod.fst (Prod.snd (Prod.snd (lnF (Go.Ab.Ln.mk (Go.Ab.Ln.b ln) (Go.Ab.Ln.cr ln) (Go.Ab.Ln.code ln)) (UInt8.ofNat (Int.toNat k))))))) (.need (I.hid (α:=(Prop)) (And (FmB (Go.Ab.Fm.mk m hd bs p (Option.some (Go.Ab.Ln.mk y2 y1 y0)) fs pa sk co out)) (LE.le (List.length y8) 1000000))) (.fin (.ret (.tup [])) [(.abs (.fm (I.hid (α:=Go.Ab.Fm) (xk (Go.Ab.Fm.mk m hd bs p (Option.some (Go.Ab.Ln.mk y2 y1 y0)) fs pa sk co out) y8))))])) (.fin (.ret (.tup [])) [(.abs (.fm (Go.Ab.Fm.mk m hd bs p (Option.some (Go.Ab.Ln.mk y2 y1 y0)) fs pa sk co out)))])))) (.fin (.ret (.tup [])) [(.abs (.fm (Go.Ab.Fm.mk m hd bs p (Option.some (Go.Ab.Ln.mk (Go.Ab.Ln.b ln) (Go.Ab.Ln.cr ln) (Go.Ab.Ln.code ln))) fs pa sk co out)))])))))))) (by kernel_rfl) ?_
  simp only [zq]
  subst hI
  simp only [nrmA,nrmB,nrlB,reduceCtorEq,HO.abs.injEq,Gh.fm.injEq]
  (repeat' (first|refine And.intro ?_ ?_|intro _))<;>first|omega|exact True.intro|exact False.elim ‹False›|skip
  all_goals first
    |omega
    |with_reducible assumption
    |(refine⟨by simp only;omega,⟨g1,g2,g3,.inr g4,g5⟩,?_⟩;done)
    |exact⟨g1,g2,g3,.inr g4,g5⟩
    |exact⟨by simp only;omega,⟨g1,g2,g3,.inr g4,g5⟩,hfd,g6⟩
    |exact Nat.le_trans hll (by omega)
    |(unfold zM;simp only;omega)
    |(unfold fm9;simp only;omega)
    |(exact absurd rfl (g10 ‹_›))
    |(subst hr;simp [*,ln0];done)
theorem zgy (f:Fm) (k:Int) (hneed:fmN f∧0≤k∧k≤255):Spc Tryd.prog 24 [.v (.one (.ptr 0 0)),.v (.one (.p (.int .u8 k)))] [.abs (.fm f)] (.ret (.tup [])) [.abs (.fm ((fmF f (UInt8.ofNat k.toNat))))]:=by
  obtain⟨m,hd,bs,p,ln,fs,pa,sk,co,out⟩:=f
  cases ln with
  |none=>exact zfz m hd bs p fs pa sk co out k hneed
  |some ln=>exact zfy m hd bs p ln fs pa sk co out k hneed
def YE (I:Alg) (args:List D) (hp:List HO):Option CT:=match args,hp with
  |[.v (.one (.ptr 0 0)),.v (.one (.p (.int .u8 k)))],[.abs (.fm f)]=>(fun(f:Fm) (k:Int)=>(some (.one ⟨I.hid (fmN f∧0≤k∧k≤255),(.ret (.tup [])),[.abs (.fm (I.hid ((fmF f (UInt8.ofNat k.toNat)))))]⟩):Option CT)) f k
  |_,_=>none
theorem Q7:zy Tryd.prog 24 (YE alg):=by
  intro args hp r h
  unfold YE at h
  split at h
  · cases h;exact fun hn=>zgy _ _ hn
  · cases h
def YD:Know Tryd.prog:=⟨24,YE,Q7⟩
def YC:Know Tryd.prog:=⟨24,fun I=>zC I (YE I),zf Q7⟩
end Go.Proofs.YtknaogelmckimaaDoor
namespace Go.Proofs.YtknaogelmckimaaDoor
open Go Go.Sep Go.Ab
set_option maxRecDepth 100000
def zJ (l:List Evt):Nat:=(l.map fun e=>e.bytes.length).sum
theorem yZ (a b:List Evt):zJ (a++b)=zJ a+zJ b:=by simp [zJ]
theorem vP (e:Evt):zJ [e]=e.bytes.length:=by simp [zJ]
theorem zb2 (o:List Evt) (e:Evt):zJ (Zx o e)≤zJ o+e.bytes.length:=by
  rcases List.eq_nil_or_concat o with rfl|⟨z,x,rfl⟩
  · rw [uY,vP];omega
  · rw [List.concat_eq_append,wo]
    split
    · rw [yZ,yZ,vP,vP];simp only [evB,List.length_append];omega
    · rw [yZ _ [e],vP e];exact Nat.le_refl _
theorem sN (l:List Evt) (e:Evt):yI (l++[e])=Zx (yI l) e:=by simp [yI,List.foldl_append]
theorem Ux (l:List Evt):zJ (yI l)≤zJ l:=by
  suffices ∀ l o:List Evt,zJ (l.foldl Zx o)≤zJ o+zJ l by have:=this l [];simpa [yI,zJ] using this
  intro l
  induction l with
  |nil=>intro o;simp [zJ]
  | cons e r ih=>
    intro o
    have h1:=ih (Zx o e)
    have h2:=zb2 o e
    have h3:zJ (e::r)=e.bytes.length+zJ r:=by simp [zJ]
    rw [List.foldl_cons];omega
theorem zb3 (o:List Evt) (e:Evt):(Zx o e).length≤o.length+1:=by
  rcases List.eq_nil_or_concat o with rfl|⟨z,x,rfl⟩
  · simp [uY]
  · rw [List.concat_eq_append,wo]
    split<;>simp
theorem zbb (l:List Evt) (i:Nat):zJ (l.take i)≤zJ l:=by
  have:=yZ (l.take i) (l.drop i)
  rw [List.take_append_drop] at this
  omega
theorem Xw {l:List Evt} {e:Evt} (h:e ∈ l):e.bytes.length≤zJ l:=by
  obtain⟨a,b,rfl⟩:=List.append_of_mem h
  have:=yZ a (e::b)
  have h3:zJ (e::b)=e.bytes.length+zJ b:=by simp [zJ]
  omega
theorem Uy (l:List Evt):(yI l).length≤l.length:=by
  suffices ∀ l o:List Evt,(l.foldl Zx o).length≤o.length+l.length by have:=this l [];simpa [yI] using this
  intro l
  induction l with
  |nil=>intro o;simp
  | cons e r ih=>
    intro o
    have h1:=ih (Zx o e)
    have h2:=zb3 o e
    rw [List.foldl_cons,List.length_cons];omega
theorem zeP (l:List Evt) (hneed:zJ l≤1000000∧l.length≤10000000):Spc Tryd.prog 11 [.v (.one (.row 0))] [.row .evt 63 l] (.ret (.v (.one (.row 1)))) [.row .evt 63 l,.row .evt 63 ((yI l))]:=by
  obtain⟨hn1,hn2⟩:=hneed
  refine spcG zl mixed Tryd.func11 (by kernel_rfl) { nr:=[3],keep:=some [0,2,3,5,6,7,8,9,10]} [] (by kernel_rfl) ?_
  intro I X hI hX
  refine zi (.code 0 [1,1,0,1,0] ⟨[(10,(.v (.one (.p (.int .i64 0))))),(9,(.v (.one (.p (.int .i64 (I.len (α:=Go.Ab.Evt) l)))))),(8,(.v (.one (.row 0)))),(3,(.v (.one (.row 1)))),(2,(.v (.one .nilS))),(0,(.v (.one (.row 0))))],[(.row .evt 63 l),(.row .evt 63 ([]:List Go.Ab.Evt))],52,none⟩) (by kernel_rfl) ?_
  simp only [zq]
  refine zF hI zl mixed [] hX [0,3,8,9,10] (fun(g:Nat × List Evt)=>match g with|(i,o)=>i≤l.length∧o=yI (l.take i)) (fun(g:Nat × List Evt)=>match g with|(i,o)=>⟨[(0,.v (.one (.row 0))),(3,.v (.one (.row 1))),(8,.v (.one (.row 0))),(9,.v (.one (.p (.int .i64 ((I.len (α:=Evt) l)))))),(10,.v (.one (.p (.int .i64 i))))],[.row .evt 63 l,.row .evt 63 o],52,none⟩) (fun(g:Nat × List Evt)=>match g with|(i,o)=>l.length - i) (0,[]) (by kernel_rfl) (by kernel_rfl) ?_ ?_
  · exact⟨Nat.zero_le _,rfl⟩
  rintro⟨i,o⟩ ⟨h1,h2⟩ A hA
  simp only at hA h1 h2
  refine zi (let y0:=I.get (α:=Go.Ab.Evt) l (Go.Ab.Evt.mk (0:Int) (Hd.mk ([]:Str) ([]:Str) (0:Int) ([]:List Fld) (0:Int)) ([]:Str) (Go.Ab.Prt.mk ([]:Str) ([]:Str) ([]:Str) ([]:Str)) (0:Int)) (Nat.cast i);let y1:=I.few (I.add (I.len (α:=Go.Ab.Evt) o) (I.len (α:=Go.Ab.Evt) ([(Go.Ab.Evt.mk (Go.Ab.Evt.kind y0) (Hd.mk (Hd.method (Go.Ab.Evt.head y0)) (Hd.target (Go.Ab.Evt.head y0)) (Hd.minor (Go.Ab.Evt.head y0)) (Hd.fields (Go.Ab.Evt.head y0)) (Hd.length (Go.Ab.Evt.head y0))) (Go.Ab.Evt.bytes y0) (Go.Ab.Prt.mk (Go.Ab.Prt.name (Go.Ab.Evt.part y0)) (Go.Ab.Prt.file (Go.Ab.Evt.part y0)) (Go.Ab.Prt.type (Go.Ab.Evt.part y0)) (Go.Ab.Prt.bytes (Go.Ab.Evt.part y0))) (Go.Ab.Evt.code y0))]:List Go.Ab.Evt))) 100000000;let y2:HO:=.row .evt 63 (I.app (α:=Go.Ab.Evt) o ([(Go.Ab.Evt.mk (Go.Ab.Evt.kind y0) (Hd.mk (Hd.method (Go.Ab.Evt.head y0)) (Hd.target (Go.Ab.Evt.head y0)) (Hd.minor (Go.Ab.Evt.head y0)) (Hd.fields (Go.Ab.Evt.head y0)) (Hd.length (Go.Ab.Evt.head y0))) (Go.Ab.Evt.bytes y0) (Go.Ab.Prt.mk (Go.Ab.Prt.name (Go.Ab.Evt.part y0)) (Go.Ab.Prt.file (Go.Ab.Evt.part y0)) (Go.Ab.Prt.type (Go.Ab.Evt.part y0)) (Go.Ab.Prt.bytes (Go.Ab.Evt.part y0))) (Go.Ab.Evt.code y0))]:List Go.Ab.Evt));let y6:=I.sub (I.len (α:=Go.Ab.Evt) o) 1;let y3:=I.get (α:=Go.Ab.Evt) o (Go.Ab.Evt.mk (0:Int) (Hd.mk ([]:Str) ([]:Str) (0:Int) ([]:List Fld) (0:Int)) ([]:Str) (Go.Ab.Prt.mk ([]:Str) ([]:Str) ([]:Str) ([]:Str)) (0:Int)) y6;let y4:=I.inb y6 (I.len (α:=Go.Ab.Evt) o);let y5:=I.inr Go.IntKind.i64 (I.add (Nat.cast i) 1);let y7:=I.inb (Nat.cast i) (I.len (α:=Go.Ab.Evt) l);let y8:=I.len (α:=UInt8) (Go.Ab.Evt.bytes y3);.br (I.ilt (Nat.cast i) (I.len (α:=Go.Ab.Evt) l)) (.need y7 (.need y7 (.need (I.inr Go.IntKind.i64 y6) (.br (I.ieq (Go.Ab.Evt.kind y0) 2) (.br (I.ile 0 y6) (.need y4 (.need y4 (.br (I.ieq (Go.Ab.Evt.kind y3) 2) (.need y4 (.need y4 (.need (I.few y8 140737488355328) (.need (I.few (I.add y8 (I.len (α:=UInt8) (Go.Ab.Evt.bytes y0))) 140737488355328) (.need y4 (.need y4 (.need y5 (.need (A ⟨[(0,(.v (.one (.row 0)))),(3,(.v (.one (.row 1)))),(8,(.v (.one (.row 0)))),(9,(.v (.one (.p (.int .i64 (I.len (α:=Go.Ab.Evt) l)))))),(10,(.v (.one (.p (.int .i64 (I.add (Nat.cast i) 1))))))],[(.row .evt 63 l),(.row .evt 63 (I.set (α:=Go.Ab.Evt) o y6 (Go.Ab.Evt.mk (2:Int) (Hd.mk ([]:Str) ([]:Str) (0:Int) ([]:List Fld) (0:Int)) (I.app (α:=UInt8) (Go.Ab.Evt.bytes y3) (Go.Ab.Evt.bytes y0)) (Go.Ab.Prt.mk ([]:Str) ([]:Str) ([]:Str) ([]:Str)) (0:Int))))],52,none⟩) .qed)))))))) (.need y1 (.need y5 (.need (A ⟨[(0,(.v (.one (.row 0)))),(3,(.v (.one (.row 1)))),(8,(.v (.one (.row 0)))),(9,(.v (.one (.p (.int .i64 (I.len (α:=Go.Ab.Evt) l)))))),(10,(.v (.one (.p (.int .i64 (I.add (Nat.cast i) 1))))))],[(.row .evt 63 l),y2],52,none⟩) .qed)))))) (.need y1 (.need y5 (.need (A ⟨[(0,(.v (.one (.row 0)))),(3,(.v (.one (.row 1)))),(8,(.v (.one (.row 0)))),(9,(.v (.one (.p (.int .i64 (I.len (α:=Go.Ab.Evt) l)))))),(10,(.v (.one (.p (.int .i64 (I.add (Nat.cast i) 1))))))],[(.row .evt 63 l),y2],52,none⟩) .qed)))) (.need y1 (.need y5 (.need (A ⟨[(0,(.v (.one (.row 0)))),(3,(.v (.one (.row 1)))),(8,(.v (.one (.row 0)))),(9,(.v (.one (.p (.int .i64 (I.len (α:=Go.Ab.Evt) l)))))),(10,(.v (.one (.p (.int .i64 (I.add (Nat.cast i) 1))))))],[(.row .evt 63 l),y2],52,none⟩) .qed))))))) (.fin (.ret (.v (.one (.row 1)))) [(.row .evt 63 l),(.row .evt 63 o)])) (by kernel_rfl) ?_
  simp only [zq]
  subst hI
  simp only [nrmA,nrmB,nrlB,reduceCtorEq]
  have hl1:=Uy (l.take i)
  have hl2:(l.take i).length≤i:=by rw [List.length_take];omega
  have hl3:=Ux (l.take i)
  have hl4: ∀ x ∈ yI (l.take i),x.bytes.length≤1000000:=fun x h=>by
    have a:=Xw h
    have b:=zbb l i
    omega
  have hw: ¬ i<l.length→o=yI l:=fun h=>by rw [h2,List.take_of_length_le (by omega)]
  have hy:i<l.length→yI (l.take (i+1))=Zx o (l.getD i ⟨0,⟨[],[],0,[],0⟩,[],⟨[],[],[],[]⟩,0⟩):=fun h=>by rw [List.take_succ_eq_append_getElem h,sN,h2];simp [h]
  have hl5:i<l.length→(l.getD i ⟨0,⟨[],[],0,[],0⟩,[],⟨[],[],[],[]⟩,0⟩).bytes.length≤1000000:=fun h=>by
    have:l.getD i ⟨0,⟨[],[],0,[],0⟩,[],⟨[],[],[],[]⟩,0⟩ ∈ l:=by simp [h]
    have:=Xw this
    omega
  rw [← h2] at hl1 hl4
  refine⟨fun c=> ?_,fun c=>hw (by omega)⟩
  have hlt:i<l.length:=by omega
  have hy:=hy hlt
  have hl5:=hl5 hlt
  generalize l.getD i ⟨0,⟨[],[],0,[],0⟩,[],⟨[],[],[],[]⟩,0⟩=e at *
  have hgo: ∀ r:List Evt,r=Zx o e→(fun p:Nat × List Evt=>p.1≤l.length∧p.2=yI (l.take p.1)) (i+1,r):=fun r h=>⟨by simp only;omega,by simp only;rw [hy,h]⟩
  rcases List.eq_nil_or_concat o with he|⟨z,x,he⟩
  · subst he
    rw [uY] at hgo
    simp only [List.length_cons,List.length_nil]
    (repeat' (first|refine And.intro ?_ ?_|intro _))<;>first|omega|exact True.intro|exact False.elim ‹False›|skip
    all_goals first
      |omega
      |exact hA (i+1,_) (hgo _ rfl) (by simp only;omega)
  · rw [List.concat_eq_append] at he
    subst he
    have hx:=hl4 x (List.mem_append_right _ (List.mem_singleton.2 rfl))
    have hz:(((z++[x]).length:Int) - 1).toNat=z.length:=by rw [List.length_append,List.length_singleton];omega
    have hg: ∀ d,(z++[x]).getD z.length d=x:=fun d=>by simp
    have hs: ∀ d,(z++[x]).set z.length d=z++[d]:=fun d=>by simp
    rw [wo] at hgo
    rw [List.length_append,List.length_singleton] at hl1
    simp only [hz,hg,hs]
    simp only [List.length_append,List.length_cons,List.length_nil]
    clear hz hg hs
    (repeat' (first|refine And.intro ?_ ?_|intro _))<;>first|omega|exact True.intro|exact False.elim ‹False›|skip
    all_goals first
      |omega
      |(rw [if_pos ⟨‹e.kind=2›,‹x.kind=2›⟩] at hgo;exact hA (i+1,_) (hgo _ rfl) (by simp only;omega))
      |(rw [if_neg (fun h=>‹¬ e.kind=2› h.1)] at hgo;exact hA (i+1,_) (hgo _ rfl) (by simp only;omega))
      |(rw [if_neg (fun h=>‹¬ x.kind=2› h.2)] at hgo;exact hA (i+1,_) (hgo _ rfl) (by simp only;omega))
def qA (I:Alg) (args:List D) (hp:List HO):Option CT:=match args,hp with
  |[.v (.one (.row 0))],[.row .evt 63 l]=>(fun(l:List Evt)=>(some (.one ⟨I.hid (zJ l≤1000000∧l.length≤10000000),(.ret (.v (.one (.row 1)))),[.row .evt 63 l,.row .evt 63 (I.hid ((yI l)))]⟩):Option CT)) l
  |_,_=>none
theorem V9:zy Tryd.prog 11 (qA alg):=by
  intro args hp r h
  unfold qA at h
  split at h
  · cases h;exact fun hn=>zeP _ hn
  · cases h
def qy:Know Tryd.prog:=⟨11,qA,V9⟩
def qx:Know Tryd.prog:=⟨11,fun I=>zC I (qA I),zf V9⟩
end Go.Proofs.YtknaogelmckimaaDoor
namespace Go.Proofs.YtknaogelmckimaaDoor
open Go Go.Sep Go.Ab
set_option maxRecDepth 100000
theorem Tj {m:Str} {n:Nat} (h:m=[]∨n<m.length) (c:UInt8):(zX m n c).1.length+(zX m n c).2.1≤n+1:=by
  unfold zX
  by_cases h0:m=[]
  · rw [if_pos h0];simp only [List.length_singleton];omega
  · rw [if_neg h0]
    have hn:n<m.length:=h.resolve_left h0
    have hf:=(P.Rh m c P.take_len n n (Nat.le_refl _) (by omega)).le
    unfold P.feed
    simp only
    repeat' split
    all_goals simp only [List.length_append,List.length_singleton,List.length_take]
    all_goals omega
theorem zeu (f:Fm) {i:Nat} (h:FmI f i) (c:UInt8):(fmSk f c).held.toNat≤f.held.toNat+1:=by
  have:=Tj (m:=f.mark) (n:=f.held.toNat) (.inr (by have:=h.h0;have:=h.h1;omega)) c
  show(((zX f.mark f.held.toNat c).2.1:Nat):Int).toNat≤_
  rw [Int.toNat_natCast];omega
theorem wI (o:List Evt) (e:Evt) (h:e.bytes=[]):zJ (o++[e])=zJ o:=by
  rw [yZ,vP,h];rfl
theorem S9 {f:Fm} {i:Nat} (h:FmI f i):zJ (yD f).out+(yD f).held.toNat≤zJ f.out+f.held.toNat+2:=by
  have h2:=h.p0
  unfold yD
  split
  · show zJ (f.out++[evF _])+_≤_
    rw [wI _ _ rfl];simp only [zG];omega
  · split
    · show zJ (f.out++[evF _])+_≤_
      rw [wI _ _ rfl];simp only [zG];omega
    · have hI:FmI { f with parts:=f.parts+1,pos:=6,out:=[],skip:=2} i:=⟨h.bs,h.ml,h.h0,h.h1,(show(0:Int)≤2∧(2:Int)≤2 by decide),by simp only;omega,h.fl,h.ff,h.lb,(fun e=>absurd (show(6:Int)=5 from e) (by decide)),Nat.zero_le _⟩
      have a:=zeu _ hI 13
      have b:=zeu _ (WB hI 13) 10
      show zJ (f.out++[evP _])+(fmSk (fmSk { f with parts:=f.parts+1,pos:=6,out:=[],skip:=2} 13) 10).held.toNat≤_
      rw [wI _ _ rfl]
      simp only at a
      omega
theorem za3 {f:Fm} {i:Nat} (h:FmI f i) (s:Str):zJ (xk f s).out+(xk f s).held.toNat≤zJ f.out+f.held.toNat+2:=by
  unfold xk
  split
  · exact S9 h
  · split
    · show zJ (f.out++[evF _])+_≤_
      rw [wI _ _ rfl];simp only [zG];omega
    · split
      · show zJ (f.out++[evF _])+_≤_
        rw [wI _ _ rfl];simp only [zG];omega
      · simp only;omega
theorem SV {f:Fm} {i:Nat} (h:FmI f i) (c:UInt8):zJ (fmF f c).out+(fmF f c).held.toNat≤zJ f.out+f.held.toNat+2:=by
  have hfail: ∀ (f:Fm) (c:Int),zJ (zG f c).out=zJ f.out∧(zG f c).held=f.held:=fun f c=>⟨wI _ _ rfl,rfl⟩
  unfold fmF
  split
  · have hp:=Tj (m:=f.mark) (n:=f.held.toNat) (.inr (by have:=h.h0;have:=h.h1;omega)) c
    have hd:(wM f c).length≤(zX f.mark f.held.toNat c).1.length:=by unfold wM;rw [List.length_drop];omega
    have e0:(fmSk f c).held.toNat=(zX f.mark f.held.toNat c).2.1:=Int.toNat_natCast _
    unfold yO
    split
    · show zJ (if f.pos=6∧wM f c≠[] then f.out++[evB (wM f c)] else f.out)+(fmSk f c).held.toNat≤_
      rw [e0]
      split
      · rw [yZ,vP];simp only [evB];omega
      · omega
    · show zJ (if f.pos=6 then(if wM f c≠[] then f.out++[evB (wM f c),evO] else f.out++[evO]) else f.out)+(fmSk f c).held.toNat≤_
      rw [e0]
      have e1:zJ [evB (wM f c),evO]=(wM f c).length:=by simp [zJ,evB,evO]
      have e2:zJ [evO]=0:=rfl
      split
      · split
        · rw [yZ,e1];omega
        · rw [yZ,e2];omega
      · omega
  · split
    · unfold yc
      repeat' split
      all_goals first
        |(simp only;omega)
        |(rw [(hfail _ _).1,(hfail _ _).2];omega)
        |(show zJ (f.out++[evE])+_≤_;rw [wI _ _ rfl];simp only;omega)
    · split
      · split
        · rw [(hfail _ _).1,(hfail _ _).2];omega
        · simp only;omega
      · split
        · split
          · rw [(hfail _ _).1,(hfail _ _).2];simp only;omega
          · split
            · have hn:(lnOf f).b.length≤i:=by
                unfold lnOf
                cases e:f.ln with
                |none=>simp [ln0]
                |some l=>exact h.lb l e
              have hb:=zgn (lnOf f) c
              have hm:=QZ h (show i≤i+1 by omega)
              exact za3 (i:=i+1) (f:= { f with ln:=some (lnF (lnOf f) c).1}) ⟨hm.bs,hm.ml,hm.h0,hm.h1,hm.s0,hm.p0,hm.fl,hm.ff,(fun l e=>by cases e;omega),(fun _ e=>by cases e),hm.on⟩ _
            · simp only;omega
        · omega
theorem zco (f:Fm) (b:Str) {i:Nat} (h:i<b.length):Zz f (b.take (i+1))=fmF (Zz f (b.take i)) (b.getD i 0):=by
  rw [show b.getD i 0=b[i] by simp [h],List.take_succ_eq_append_getElem h]
  unfold Zz
  rw [List.foldl_append]
  rfl
theorem zcp: ∀ (b:Str) (f:Fm) (i:Nat),FmI f i→FmI (Zz f b) (i+b.length)
  |[],f,i,h=>h
  | c::r,f,i,h=>by
    have:=zcp r (fmF f c) (i+1) (zdS h c)
    rw [List.length_cons,show i+(r.length+1)=i+1+r.length by omega]
    exact this
def fmN0 (f:Fm) (b:Str):Prop:=∃ n,FmI { f with out:=[]} n∧n+b.length≤400000
theorem zdP (m:Str) (hd:Int) (bs:List Int) (p:Int) (fs:List Fld) (pa sk co:Int) (out:List Evt) (b:Str) (hneed:fmN0 ⟨m,hd,bs,p,none,fs,pa,sk,co,out⟩ b):Spc Tryd.prog 9 [.v (.one (.ptr 0 0)),.v (.one (.p (.list .byte b)))] [.abs (.fm ⟨m,hd,bs,p,none,fs,pa,sk,co,out⟩)] (.ret (.v (.one (.row 1)))) [.abs (.fm ((yh ⟨m,hd,bs,p,none,fs,pa,sk,co,out⟩ b))),.row .evt 63 ((yI (yh ⟨m,hd,bs,p,none,fs,pa,sk,co,out⟩ b).out))]:=by
  obtain⟨n,hI0,hnb⟩:=hneed
  have hml:=hI0.ml
  have hh1:=hI0.h1
  have hh0:=hI0.h0
  simp only at hml hh1 hh0
  have hh:hd.toNat≤1000:=by
    omega
  refine spcG zl mixed Tryd.func9 (by kernel_rfl) { cfgF with keep:=some [0,1,4,6,10,11,12]} [YD,YC,qy,qx] (by kernel_rfl) ?_
  intro I X hI hX
  refine zi (.code 0 [1,1,0,1,0] ⟨[(12,(.v (.one (.p (.int .i64 0))))),(11,(.v (.one (.p (.int .i64 (I.len (α:=UInt8) b)))))),(10,(.v (.one (.p (.list .byte b))))),(4,(.v (.one .nilS))),(0,(.v (.one (.ptr 0 0)))),(1,(.v (.one (.p (.list .byte b)))))],[(.obj 55 [(.ptr 1 0),(.p (.int .i64 p)),(.p (.val (.pointer .none))),(.row 2),(.p (.int .i64 pa)),(.p (.int .i64 sk)),(.p (.int .i64 co)),.nilS]),(.pack [(.obj 84 [(.row 1),(.row 2),(.p (.int .i64 hd))]),(.row .byte 5 m),(.row .int 3 bs)]),(.row .fld 67 fs),(.row .evt 63 out)],25,none⟩) (by kernel_rfl) ?_
  simp only [zq]
  unfold yh
  simp only at hI0 ⊢
  refine zF hI zl mixed [YD,YC,qy,qx] hX [0,10,11,12] (fun(g:Nat × Fm)=>match g with|(i,r)=>i≤b.length∧r=Zz (⟨m,hd,bs,p,none,fs,pa,sk,co,[]⟩:Fm) (b.take i)∧FmI r (n+i)∧zJ r.out+r.held.toNat≤hd.toNat+2 * i) (fun(g:Nat × Fm)=>match g with|(i,r)=>⟨[(0,.v (.one (.ptr 0 0))),(10,.v (.one (.p (.list .byte b)))),(11,.v (.one (.p (.int .i64 ((I.len (α:=UInt8) b)))))),(12,.v (.one (.p (.int .i64 i))))],[.abs (.fm r)],25,none⟩) (fun(g:Nat × Fm)=>match g with|(i,r)=>b.length - i) (0,(⟨m,hd,bs,p,none,fs,pa,sk,co,[]⟩:Fm)) (by kernel_rfl) (by kernel_rfl) ?_ ?_
  · exact⟨Nat.zero_le _,rfl,hI0,by simp [zJ]⟩
  rintro⟨i,⟨m2,hd2,bs2,p2,ln2,fs2,pa2,sk2,co2,out2⟩⟩ ⟨h1,h2,h3,h4⟩ A hA
  simp only at hA h1 h2 h3 h4
  have hrn:i<b.length→fmN _:=fun h=>⟨n+i,by omega,h3⟩
  have hgo:i<b.length→_:=fun h=>hA (i+1,fmF ⟨m2,hd2,bs2,p2,ln2,fs2,pa2,sk2,co2,out2⟩ (b.getD i 0)) ⟨by simp only;omega,by simp only;rw [zco _ _ h,← h2],by simp only;exact zdS h3 _,by simp only;have:=SV h3 (b.getD i 0);simp only at this;omega⟩ (by simp only;omega)
  have hend: ¬ i<b.length→_:=fun h=>h2.trans (by rw [List.take_of_length_le (by omega)])
  rcases ln2 with _|l2
  · have h0:=h1
    refine zi (let y0:=I.b2i (I.get (α:=UInt8) b 0 (Nat.cast i));let y1:=I.inb (Nat.cast i) (I.len (α:=UInt8) b);.br (I.ilt (Nat.cast i) (I.len (α:=UInt8) b)) (.need y1 (.need y1 (.need (I.hid (α:=(Prop)) (And (fmN (Go.Ab.Fm.mk m2 hd2 bs2 p2 (Option.none) fs2 pa2 sk2 co2 out2)) (And (LE.le (0:Int) y0) (LE.le y0 (255:Int))))) (.need (I.inr Go.IntKind.i64 (I.add (Nat.cast i) 1)) (.need (A ⟨[(0,(.v (.one (.ptr 0 0)))),(10,(.v (.one (.p (.list .byte b))))),(11,(.v (.one (.p (.int .i64 (I.len (α:=UInt8) b)))))),(12,(.v (.one (.p (.int .i64 (I.add (Nat.cast i) 1))))))],[(.abs (.fm (I.hid (α:=Go.Ab.Fm) (fmF (Go.Ab.Fm.mk m2 hd2 bs2 p2 (Option.none) fs2 pa2 sk2 co2 out2) (UInt8.ofNat (Int.toNat y0))))))],25,none⟩) .qed))))) (.need (I.hid (α:=(Prop)) (And (LE.le (zJ out2) 1000000) (LE.le (List.length out2) 10000000))) (.fin (.ret (.v (.one (.row 1)))) [(.abs (.fm (Go.Ab.Fm.mk m2 hd2 bs2 p2 (Option.none) fs2 pa2 sk2 co2 out2))),(.row .evt 63 (I.hid (α:=(List Go.Ab.Evt)) (yI out2)))]))) (by kernel_rfl) ?_
    simp only [zq]
    subst hI
    simp only [nrmA,nrmB,nrlB,reduceCtorEq,HO.abs.injEq,Gh.fm.injEq]
    by_cases hi:i<b.length
    · have hg:=hgo hi
      have hn:=hrn hi
      (repeat' (first|refine And.intro ?_ ?_|intro _))<;>first|omega|exact True.intro|exact False.elim ‹False›|skip
      all_goals first|omega|exact hg|exact hn|contradiction|(have:=(b.getD i 0).toNat_lt;omega)|trace_state
    · have hg:=hend hi
      rw [← hg]
      have hon:=h3.on
      simp only at hon
      (repeat' (first|refine And.intro ?_ ?_|intro _))<;>first|omega|exact True.intro|exact False.elim ‹False›|skip
      all_goals first|omega|rfl|contradiction|exact⟨by omega,by omega⟩|trace_state
  · have h0:=h1
    refine zi (let y0:=I.b2i (I.get (α:=UInt8) b 0 (Nat.cast i));let y1:=I.inb (Nat.cast i) (I.len (α:=UInt8) b);.br (I.ilt (Nat.cast i) (I.len (α:=UInt8) b)) (.need y1 (.need y1 (.need (I.hid (α:=(Prop)) (And (fmN (Go.Ab.Fm.mk m2 hd2 bs2 p2 (Option.some l2) fs2 pa2 sk2 co2 out2)) (And (LE.le (0:Int) y0) (LE.le y0 (255:Int))))) (.need (I.inr Go.IntKind.i64 (I.add (Nat.cast i) 1)) (.need (A ⟨[(0,(.v (.one (.ptr 0 0)))),(10,(.v (.one (.p (.list .byte b))))),(11,(.v (.one (.p (.int .i64 (I.len (α:=UInt8) b)))))),(12,(.v (.one (.p (.int .i64 (I.add (Nat.cast i) 1))))))],[(.abs (.fm (I.hid (α:=Go.Ab.Fm) (fmF (Go.Ab.Fm.mk m2 hd2 bs2 p2 (Option.some l2) fs2 pa2 sk2 co2 out2) (UInt8.ofNat (Int.toNat y0))))))],25,none⟩) .qed))))) (.need (I.hid (α:=(Prop)) (And (LE.le (zJ out2) 1000000) (LE.le (List.length out2) 10000000))) (.fin (.ret (.v (.one (.row 1)))) [(.abs (.fm (Go.Ab.Fm.mk m2 hd2 bs2 p2 (Option.some (Go.Ab.Ln.mk (Go.Ab.Ln.b l2) (Go.Ab.Ln.cr l2) (Go.Ab.Ln.code l2))) fs2 pa2 sk2 co2 out2))),(.row .evt 63 (I.hid (α:=(List Go.Ab.Evt)) (yI out2)))]))) (by kernel_rfl) ?_
    simp only [zq]
    subst hI
    simp only [nrmA,nrmB,nrlB,reduceCtorEq,HO.abs.injEq,Gh.fm.injEq]
    by_cases hi:i<b.length
    · have hg:=hgo hi
      have hn:=hrn hi
      (repeat' (first|refine And.intro ?_ ?_|intro _))<;>first|omega|exact True.intro|exact False.elim ‹False›|skip
      all_goals first|omega|exact hg|exact hn|contradiction|(have:=(b.getD i 0).toNat_lt;omega)|trace_state
    · have hg:=hend hi
      rw [← hg]
      have hon:=h3.on
      simp only at hon
      (repeat' (first|refine And.intro ?_ ?_|intro _))<;>first|omega|exact True.intro|exact False.elim ‹False›|skip
      all_goals first|omega|rfl|contradiction|exact⟨by omega,by omega⟩|trace_state
theorem zdO (m:Str) (hd:Int) (bs:List Int) (p:Int) (ln:Ln) (fs:List Fld) (pa sk co:Int) (out:List Evt) (b:Str) (hneed:fmN0 ⟨m,hd,bs,p,some ln,fs,pa,sk,co,out⟩ b):Spc Tryd.prog 9 [.v (.one (.ptr 0 0)),.v (.one (.p (.list .byte b)))] [.abs (.fm ⟨m,hd,bs,p,some ln,fs,pa,sk,co,out⟩)] (.ret (.v (.one (.row 1)))) [.abs (.fm ((yh ⟨m,hd,bs,p,some ln,fs,pa,sk,co,out⟩ b))),.row .evt 63 ((yI (yh ⟨m,hd,bs,p,some ln,fs,pa,sk,co,out⟩ b).out))]:=by
  obtain⟨n,hI0,hnb⟩:=hneed
  have hml:=hI0.ml
  have hh1:=hI0.h1
  have hh0:=hI0.h0
  simp only at hml hh1 hh0
  have hh:hd.toNat≤1000:=by
    omega
  refine spcG zl mixed Tryd.func9 (by kernel_rfl) { cfgF with keep:=some [0,1,4,6,10,11,12]} [YD,YC,qy,qx] (by kernel_rfl) ?_
  intro I X hI hX
  refine zi (.code 0 [1,1,0,1,0] ⟨[(12,(.v (.one (.p (.int .i64 0))))),(11,(.v (.one (.p (.int .i64 (I.len (α:=UInt8) b)))))),(10,(.v (.one (.p (.list .byte b))))),(4,(.v (.one .nilS))),(0,(.v (.one (.ptr 0 0)))),(1,(.v (.one (.p (.list .byte b)))))],[(.obj 55 [(.ptr 1 0),(.p (.int .i64 p)),(.ptr 2 0),(.row 3),(.p (.int .i64 pa)),(.p (.int .i64 sk)),(.p (.int .i64 co)),.nilS]),(.pack [(.obj 84 [(.row 1),(.row 2),(.p (.int .i64 hd))]),(.row .byte 5 m),(.row .int 3 bs)]),(.pack [(.obj 106 [(.row 1),(.p (.bool (Go.Ab.Ln.cr ln))),(.p (.int .i64 (Go.Ab.Ln.code ln)))]),(.row .byte 5 (Go.Ab.Ln.b ln))]),(.row .fld 67 fs),(.row .evt 63 out)],25,none⟩) (by kernel_rfl) ?_
  simp only [zq]
  unfold yh
  simp only at hI0 ⊢
  refine zF hI zl mixed [YD,YC,qy,qx] hX [0,10,11,12] (fun(g:Nat × Fm)=>match g with|(i,r)=>i≤b.length∧r=Zz (⟨m,hd,bs,p,some ln,fs,pa,sk,co,[]⟩:Fm) (b.take i)∧FmI r (n+i)∧zJ r.out+r.held.toNat≤hd.toNat+2 * i) (fun(g:Nat × Fm)=>match g with|(i,r)=>⟨[(0,.v (.one (.ptr 0 0))),(10,.v (.one (.p (.list .byte b)))),(11,.v (.one (.p (.int .i64 ((I.len (α:=UInt8) b)))))),(12,.v (.one (.p (.int .i64 i))))],[.abs (.fm r)],25,none⟩) (fun(g:Nat × Fm)=>match g with|(i,r)=>b.length - i) (0,(⟨m,hd,bs,p,some ln,fs,pa,sk,co,[]⟩:Fm)) (by kernel_rfl) (by kernel_rfl) ?_ ?_
  · exact⟨Nat.zero_le _,rfl,hI0,by simp [zJ]⟩
  rintro⟨i,⟨m2,hd2,bs2,p2,ln2,fs2,pa2,sk2,co2,out2⟩⟩ ⟨h1,h2,h3,h4⟩ A hA
  simp only at hA h1 h2 h3 h4
  have hrn:i<b.length→fmN _:=fun h=>⟨n+i,by omega,h3⟩
  have hgo:i<b.length→_:=fun h=>hA (i+1,fmF ⟨m2,hd2,bs2,p2,ln2,fs2,pa2,sk2,co2,out2⟩ (b.getD i 0)) ⟨by simp only;omega,by simp only;rw [zco _ _ h,← h2],by simp only;exact zdS h3 _,by simp only;have:=SV h3 (b.getD i 0);simp only at this;omega⟩ (by simp only;omega)
  have hend: ¬ i<b.length→_:=fun h=>h2.trans (by rw [List.take_of_length_le (by omega)])
  rcases ln2 with _|l2
  · have h0:=h1
    refine zi (let y0:=I.b2i (I.get (α:=UInt8) b 0 (Nat.cast i));let y1:=I.inb (Nat.cast i) (I.len (α:=UInt8) b);.br (I.ilt (Nat.cast i) (I.len (α:=UInt8) b)) (.need y1 (.need y1 (.need (I.hid (α:=(Prop)) (And (fmN (Go.Ab.Fm.mk m2 hd2 bs2 p2 (Option.none) fs2 pa2 sk2 co2 out2)) (And (LE.le (0:Int) y0) (LE.le y0 (255:Int))))) (.need (I.inr Go.IntKind.i64 (I.add (Nat.cast i) 1)) (.need (A ⟨[(0,(.v (.one (.ptr 0 0)))),(10,(.v (.one (.p (.list .byte b))))),(11,(.v (.one (.p (.int .i64 (I.len (α:=UInt8) b)))))),(12,(.v (.one (.p (.int .i64 (I.add (Nat.cast i) 1))))))],[(.abs (.fm (I.hid (α:=Go.Ab.Fm) (fmF (Go.Ab.Fm.mk m2 hd2 bs2 p2 (Option.none) fs2 pa2 sk2 co2 out2) (UInt8.ofNat (Int.toNat y0))))))],25,none⟩) .qed))))) (.need (I.hid (α:=(Prop)) (And (LE.le (zJ out2) 1000000) (LE.le (List.length out2) 10000000))) (.fin (.ret (.v (.one (.row 1)))) [(.abs (.fm (Go.Ab.Fm.mk m2 hd2 bs2 p2 (Option.none) fs2 pa2 sk2 co2 out2))),(.row .evt 63 (I.hid (α:=(List Go.Ab.Evt)) (yI out2)))]))) (by kernel_rfl) ?_
    simp only [zq]
    subst hI
    simp only [nrmA,nrmB,nrlB,reduceCtorEq,HO.abs.injEq,Gh.fm.injEq]
    by_cases hi:i<b.length
    · have hg:=hgo hi
      have hn:=hrn hi
      (repeat' (first|refine And.intro ?_ ?_|intro _))<;>first|omega|exact True.intro|exact False.elim ‹False›|skip
      all_goals first|omega|exact hg|exact hn|contradiction|(have:=(b.getD i 0).toNat_lt;omega)|trace_state
    · have hg:=hend hi
      rw [← hg]
      have hon:=h3.on
      simp only at hon
      (repeat' (first|refine And.intro ?_ ?_|intro _))<;>first|omega|exact True.intro|exact False.elim ‹False›|skip
      all_goals first|omega|rfl|contradiction|exact⟨by omega,by omega⟩|trace_state
  · have h0:=h1
    refine zi (let y0:=I.b2i (I.get (α:=UInt8) b 0 (Nat.cast i));let y1:=I.inb (Nat.cast i) (I.len (α:=UInt8) b);.br (I.ilt (Nat.cast i) (I.len (α:=UInt8) b)) (.need y1 (.need y1 (.need (I.hid (α:=(Prop)) (And (fmN (Go.Ab.Fm.mk m2 hd2 bs2 p2 (Option.some l2) fs2 pa2 sk2 co2 out2)) (And (LE.le (0:Int) y0) (LE.le y0 (255:Int))))) (.need (I.inr Go.IntKind.i64 (I.add (Nat.cast i) 1)) (.need (A ⟨[(0,(.v (.one (.ptr 0 0)))),(10,(.v (.one (.p (.list .byte b))))),(11,(.v (.one (.p (.int .i64 (I.len (α:=UInt8) b)))))),(12,(.v (.one (.p (.int .i64 (I.add (Nat.cast i) 1))))))],[(.abs (.fm (I.hid (α:=Go.Ab.Fm) (fmF (Go.Ab.Fm.mk m2 hd2 bs2 p2 (Option.some l2) fs2 pa2 sk2 co2 out2) (UInt8.ofNat (Int.toNat y0))))))],25,none⟩) .qed))))) (.need (I.hid (α:=(Prop)) (And (LE.le (zJ out2) 1000000) (LE.le (List.length out2) 10000000))) (.fin (.ret (.v (.one (.row 1)))) [(.abs (.fm (Go.Ab.Fm.mk m2 hd2 bs2 p2 (Option.some (Go.Ab.Ln.mk (Go.Ab.Ln.b l2) (Go.Ab.Ln.cr l2) (Go.Ab.Ln.code l2))) fs2 pa2 sk2 co2 out2))),(.row .evt 63 (I.hid (α:=(List Go.Ab.Evt)) (yI out2)))]))) (by kernel_rfl) ?_
    simp only [zq]
    subst hI
    simp only [nrmA,nrmB,nrlB,reduceCtorEq,HO.abs.injEq,Gh.fm.injEq]
    by_cases hi:i<b.length
    · have hg:=hgo hi
      have hn:=hrn hi
      (repeat' (first|refine And.intro ?_ ?_|intro _))<;>first|omega|exact True.intro|exact False.elim ‹False›|skip
      all_goals first|omega|exact hg|exact hn|contradiction|(have:=(b.getD i 0).toNat_lt;omega)|trace_state
    · have hg:=hend hi
      rw [← hg]
      have hon:=h3.on
      simp only at hon
      (repeat' (first|refine And.intro ?_ ?_|intro _))<;>first|omega|exact True.intro|exact False.elim ‹False›|skip
      all_goals first|omega|rfl|contradiction|exact⟨by omega,by omega⟩|trace_state
theorem zfw (f:Fm) (b:Str) (hneed:fmN0 f b):Spc Tryd.prog 9 [.v (.one (.ptr 0 0)),.v (.one (.p (.list .byte b)))] [.abs (.fm f)] (.ret (.v (.one (.row 1)))) [.abs (.fm ((yh f b))),.row .evt 63 ((yI (yh f b).out))]:=by
  obtain⟨m,hd,bs,p,ln,fs,pa,sk,co,out⟩:=f
  cases ln with
  |none=>exact zdP m hd bs p fs pa sk co out b hneed
  |some ln=>exact zdO m hd bs p ln fs pa sk co out b hneed
def qY (I:Alg) (args:List D) (hp:List HO):Option CT:=match args,hp with
  |[.v (.one (.ptr 0 0)),.v (.one (.p (.list .byte b)))],[.abs (.fm f)]=>(fun(f:Fm) (b:Str)=>(some (.one ⟨I.hid (fmN0 f b),(.ret (.v (.one (.row 1)))),[.abs (.fm (I.hid ((yh f b)))),.row .evt 63 (I.hid ((yI (yh f b).out)))]⟩):Option CT)) f b
  |_,_=>none
theorem U6:zy Tryd.prog 9 (qY alg):=by
  intro args hp r h
  unfold qY at h
  split at h
  · cases h;exact fun hn=>zfw _ _ hn
  · cases h
def Xn:Know Tryd.prog:=⟨9,qY,U6⟩
def Xm:Know Tryd.prog:=⟨9,fun I=>zC I (qY I),zf U6⟩
theorem zcu (m:Str) (hd:Int) (bs:List Int) (p:Int) (fs:List Fld) (pa sk co:Int) (out:List Evt):Spc Tryd.prog 12 [.v (.one (.ptr 0 0))] [.abs (.fm ⟨m,hd,bs,p,none,fs,pa,sk,co,out⟩)] (.ret (.v (.one (.p (.int .i64 ((yY ⟨m,hd,bs,p,none,fs,pa,sk,co,out⟩))))))) [.abs (.fm ⟨m,hd,bs,p,none,fs,pa,sk,co,out⟩)]:=by
  generalize hr:yY ⟨m,hd,bs,p,none,fs,pa,sk,co,out⟩=r
  unfold yY at hr
  simp only at hr
  refine spcG zl mixed Tryd.func12 (by kernel_rfl) { cfgF with keep:=some [0,2,6]} [] (by kernel_rfl) ?_
  intro I X hI hX
  refine zi (.br (I.ieq p 8) (.fin (.ret (.v (.one (.p (.int .i64 co))))) [(.abs (.fm (Go.Ab.Fm.mk m hd bs p (Option.none) fs pa sk co out)))]) (.br (I.ieq p 7) (.fin (.ret (.v (.one (.p (.int .i64 0))))) [(.abs (.fm (Go.Ab.Fm.mk m hd bs p (Option.none) fs pa sk co out)))]) (.fin (.ret (.v (.one (.p (.int .i64 14))))) [(.abs (.fm (Go.Ab.Fm.mk m hd bs p (Option.none) fs pa sk co out)))]))) (by kernel_rfl) ?_
  simp only [zq]
  subst hI
  simp only [nrmA,nrmB,nrlB,reduceCtorEq,HO.abs.injEq,Gh.fm.injEq]
  (repeat' (first|refine And.intro ?_ ?_|intro _))<;>first|omega|exact True.intro|exact False.elim ‹False›|skip
  all_goals first|omega|rfl|(subst hr;simp [*];done)|trace_state
theorem zct (m:Str) (hd:Int) (bs:List Int) (p:Int) (ln:Ln) (fs:List Fld) (pa sk co:Int) (out:List Evt):Spc Tryd.prog 12 [.v (.one (.ptr 0 0))] [.abs (.fm ⟨m,hd,bs,p,some ln,fs,pa,sk,co,out⟩)] (.ret (.v (.one (.p (.int .i64 ((yY ⟨m,hd,bs,p,some ln,fs,pa,sk,co,out⟩))))))) [.abs (.fm ⟨m,hd,bs,p,some ln,fs,pa,sk,co,out⟩)]:=by
  generalize hr:yY ⟨m,hd,bs,p,some ln,fs,pa,sk,co,out⟩=r
  unfold yY at hr
  simp only at hr
  refine spcG zl mixed Tryd.func12 (by kernel_rfl) { cfgF with keep:=some [0,2,6]} [] (by kernel_rfl) ?_
  intro I X hI hX
  refine zi (.br (I.ieq p 8) (.fin (.ret (.v (.one (.p (.int .i64 co))))) [(.abs (.fm (Go.Ab.Fm.mk m hd bs p (Option.some (Go.Ab.Ln.mk (Go.Ab.Ln.b ln) (Go.Ab.Ln.cr ln) (Go.Ab.Ln.code ln))) fs pa sk co out)))]) (.br (I.ieq p 7) (.fin (.ret (.v (.one (.p (.int .i64 0))))) [(.abs (.fm (Go.Ab.Fm.mk m hd bs p (Option.some (Go.Ab.Ln.mk (Go.Ab.Ln.b ln) (Go.Ab.Ln.cr ln) (Go.Ab.Ln.code ln))) fs pa sk co out)))]) (.fin (.ret (.v (.one (.p (.int .i64 14))))) [(.abs (.fm (Go.Ab.Fm.mk m hd bs p (Option.some (Go.Ab.Ln.mk (Go.Ab.Ln.b ln) (Go.Ab.Ln.cr ln) (Go.Ab.Ln.code ln))) fs pa sk co out)))]))) (by kernel_rfl) ?_
  simp only [zq]
  subst hI
  simp only [nrmA,nrmB,nrlB,reduceCtorEq,HO.abs.injEq,Gh.fm.injEq]
  (repeat' (first|refine And.intro ?_ ?_|intro _))<;>first|omega|exact True.intro|exact False.elim ‹False›|skip
  all_goals first|omega|rfl|(subst hr;simp [*];done)|trace_state
theorem zdT (f:Fm):Spc Tryd.prog 12 [.v (.one (.ptr 0 0))] [.abs (.fm f)] (.ret (.v (.one (.p (.int .i64 ((yY f))))))) [.abs (.fm f)]:=by
  obtain⟨m,hd,bs,p,ln,fs,pa,sk,co,out⟩:=f
  cases ln with
  |none=>exact zcu m hd bs p fs pa sk co out
  |some ln=>exact zct m hd bs p ln fs pa sk co out
def sV (I:Alg) (args:List D) (hp:List HO):Option CT:=match args,hp with
  |[.v (.one (.ptr 0 0))],[.abs (.fm f)]=>(fun(f:Fm)=>(some (.one ⟨I.hid (True),(.ret (.v (.one (.p (.int .i64 (I.hid ((yY f)))))))),[.abs (.fm f)]⟩):Option CT)) f
  |_,_=>none
theorem WG:zy Tryd.prog 12 (sV alg):=by
  intro args hp r h
  unfold sV at h
  split at h
  · cases h;exact fun hn=>zdT _
  · cases h
def ZB:Know Tryd.prog:=⟨12,sV,WG⟩
def ZA:Know Tryd.prog:=⟨12,fun I=>zC I (sV I),zf WG⟩
theorem zfu (s:Str) (hneed:s.length≤1000000∧vz s=true):Spc Tryd.prog 7 [.v (.one (.p (.str s)))] [] (.ret (.tup [(.one (.ptr 0 0)),(.one (.p (.int .i64 0)))])) [.abs (.fm ((fm0 s)))]:=by
  obtain⟨hs,hm⟩:=hneed
  have hl:s.length≤70:=by unfold vz at hm;simp at hm;omega
  generalize hr:fm0 s=r
  unfold fm0 fmSk at hr
  simp only [Int.toNat_natCast] at hr
  refine spcG zl mixed Tryd.func7 (by kernel_rfl) { cfgF with keep:=some [0,2,3,4]} [ZG,ZF,zek,zej,VB,VA] (by kernel_rfl) ?_
  intro I X hI hX
  refine zi (let y0:=I.hid (α:=Int) (Nat.cast (Prod.fst (Prod.snd (zX (I.app (α:=UInt8) ([13,10,45,45]:Str) s) (Int.toNat (0:Int)) (UInt8.ofNat (Int.toNat (13:Int)))))));let y1:=I.hid (α:=(List Int)) (xN (I.app (α:=UInt8) ([13,10,45,45]:Str) s));.need (I.hid (α:=(Prop)) (LE.le (List.length s) 1000000)) (.br (I.bnot (I.hid (α:=Bool) (vz s))) (.fin (.ret (.tup [(.one (.p (.val (.pointer .none)))),(.one (.p (.int .i64 5)))])) []) (.need (I.few (I.add (I.len (α:=UInt8) ([13,10,45,45]:Str)) (I.len (α:=UInt8) s)) 1000000000) (.need (I.hid (α:=(Prop)) (LE.le (List.length (I.app (α:=UInt8) ([13,10,45,45]:Str) s)) 999999)) (.need (I.hid (α:=(Prop)) (And (Eq y1 (xN (I.app (α:=UInt8) ([13,10,45,45]:Str) s))) (And (LE.le (List.length (I.app (α:=UInt8) ([13,10,45,45]:Str) s)) 1000000) (And (LE.le (0:Int) (0:Int)) (And (Or (Eq (I.app (α:=UInt8) ([13,10,45,45]:Str) s) ([]:Str)) (LT.lt (0:Int) (Nat.cast (List.length (I.app (α:=UInt8) ([13,10,45,45]:Str) s))))) (And (LE.le (0:Int) (13:Int)) (LE.le (13:Int) (255:Int)))))))) (.need (I.hid (α:=(Prop)) (And (Eq y1 (xN (I.app (α:=UInt8) ([13,10,45,45]:Str) s))) (And (LE.le (List.length (I.app (α:=UInt8) ([13,10,45,45]:Str) s)) 1000000) (And (LE.le (0:Int) y0) (And (Or (Eq (I.app (α:=UInt8) ([13,10,45,45]:Str) s) ([]:Str)) (LT.lt y0 (Nat.cast (List.length (I.app (α:=UInt8) ([13,10,45,45]:Str) s))))) (And (LE.le (0:Int) (10:Int)) (LE.le (10:Int) (255:Int)))))))) (.fin (.ret (.tup [(.one (.ptr 0 0)),(.one (.p (.int .i64 0)))])) [(.abs (.fm (Go.Ab.Fm.mk (I.app (α:=UInt8) ([13,10,45,45]:Str) s) (I.hid (α:=Int) (Nat.cast (Prod.fst (Prod.snd (zX (I.app (α:=UInt8) ([13,10,45,45]:Str) s) (Int.toNat y0) (UInt8.ofNat (Int.toNat (10:Int)))))))) y1 (0:Int) (Option.none) ([]:List Fld) (0:Int) (0:Int) (0:Int) ([]:List Go.Ab.Evt))))]))))))) (by kernel_rfl) ?_
  simp only [zq]
  unfold Xl at hr
  subst hI
  simp only [nrmA,nrmB,nrlB,reduceCtorEq,HO.abs.injEq,Gh.fm.injEq]
  have hM:([13,10,45,45]++s).length=s.length+4:=by simp
  generalize([13,10,45,45]++s:Str)=M at *
  have h1:=Za M 0 13
  (repeat' (first|refine And.intro ?_ ?_|intro _))<;>first|omega|exact True.intro|exact False.elim ‹False›|skip
  all_goals first
    |omega
    |exact .inr (by omega)
    |exact h1
    |exact Int.natCast_nonneg _
    |exact absurd (hm.symm.trans ‹vz s=false›) (by decide)
    |(subst hr;rfl)
    |(simp only [List.length_cons,List.length_nil];omega)
def qW (I:Alg) (args:List D) (hp:List HO):Option CT:=match args,hp with
  |[.v (.one (.p (.str s)))],[]=>(fun(s:Str)=>(some (.one ⟨I.hid (s.length≤1000000∧vz s=true),(.ret (.tup [(.one (.ptr 0 0)),(.one (.p (.int .i64 0)))])),[.abs (.fm (I.hid ((fm0 s))))]⟩):Option CT)) s
  |_,_=>none
theorem U2:zy Tryd.prog 7 (qW alg):=by
  intro args hp r h
  unfold qW at h
  split at h
  · cases h;exact fun hn=>zfu _ hn
  · cases h
def Xk:Know Tryd.prog:=⟨7,qW,U2⟩
def Xj:Know Tryd.prog:=⟨7,fun I=>zC I (qW I),zf U2⟩
theorem zft (s:Str) (hneed:s.length≤1000000∧vz s=false):Spc Tryd.prog 7 [.v (.one (.p (.str s)))] [] (.ret (.tup [(.one (.p (.val (.pointer none)))),(.one (.p (.int .i64 5)))])) []:=by
  obtain⟨hs,hm⟩:=hneed
  refine spcG zl mixed Tryd.func7 (by kernel_rfl) { cfgF with keep:=some [0,2,3,4]} [ZG,ZF,zek,zej,VB,VA,Xk,Xj] (by kernel_rfl) ?_
  intro I X hI hX
  refine zi (let y0:=I.hid (α:=Int) (Nat.cast (Prod.fst (Prod.snd (zX (I.app (α:=UInt8) ([13,10,45,45]:Str) s) (Int.toNat (0:Int)) (UInt8.ofNat (Int.toNat (13:Int)))))));let y1:=I.hid (α:=(List Int)) (xN (I.app (α:=UInt8) ([13,10,45,45]:Str) s));.need (I.hid (α:=(Prop)) (LE.le (List.length s) 1000000)) (.br (I.bnot (I.hid (α:=Bool) (vz s))) (.fin (.ret (.tup [(.one (.p (.val (.pointer .none)))),(.one (.p (.int .i64 5)))])) []) (.need (I.few (I.add (I.len (α:=UInt8) ([13,10,45,45]:Str)) (I.len (α:=UInt8) s)) 1000000000) (.need (I.hid (α:=(Prop)) (LE.le (List.length (I.app (α:=UInt8) ([13,10,45,45]:Str) s)) 999999)) (.need (I.hid (α:=(Prop)) (And (Eq y1 (xN (I.app (α:=UInt8) ([13,10,45,45]:Str) s))) (And (LE.le (List.length (I.app (α:=UInt8) ([13,10,45,45]:Str) s)) 1000000) (And (LE.le (0:Int) (0:Int)) (And (Or (Eq (I.app (α:=UInt8) ([13,10,45,45]:Str) s) ([]:Str)) (LT.lt (0:Int) (Nat.cast (List.length (I.app (α:=UInt8) ([13,10,45,45]:Str) s))))) (And (LE.le (0:Int) (13:Int)) (LE.le (13:Int) (255:Int)))))))) (.need (I.hid (α:=(Prop)) (And (Eq y1 (xN (I.app (α:=UInt8) ([13,10,45,45]:Str) s))) (And (LE.le (List.length (I.app (α:=UInt8) ([13,10,45,45]:Str) s)) 1000000) (And (LE.le (0:Int) y0) (And (Or (Eq (I.app (α:=UInt8) ([13,10,45,45]:Str) s) ([]:Str)) (LT.lt y0 (Nat.cast (List.length (I.app (α:=UInt8) ([13,10,45,45]:Str) s))))) (And (LE.le (0:Int) (10:Int)) (LE.le (10:Int) (255:Int)))))))) (.fin (.ret (.tup [(.one (.ptr 0 0)),(.one (.p (.int .i64 0)))])) [(.abs (.fm (Go.Ab.Fm.mk (I.app (α:=UInt8) ([13,10,45,45]:Str) s) (I.hid (α:=Int) (Nat.cast (Prod.fst (Prod.snd (zX (I.app (α:=UInt8) ([13,10,45,45]:Str) s) (Int.toNat y0) (UInt8.ofNat (Int.toNat (10:Int)))))))) y1 (0:Int) (Option.none) ([]:List Fld) (0:Int) (0:Int) (0:Int) ([]:List Go.Ab.Evt))))]))))))) (by kernel_rfl) ?_
  simp only [zq]
  subst hI
  simp only [nrmA,nrmB,nrlB,reduceCtorEq]
  exact⟨hs,fun _=>trivial,by simp [hm]⟩
end Go.Proofs.YtknaogelmckimaaDoor
namespace Go.Proofs.YtknaogelmckimaaDoor
open Go Go.Sep Go.Ab
inductive GR:List Evt→Prop
  |nil:GR []
  |other {l:List Evt} {e:Evt} (h:GR l) (h2:e.kind≠2) (h5:e.kind=5→e.part.bytes=[]):GR (l++[e])
  |body {l:List Evt} {x e:Evt} (h:GR (l++[x])) (hx:x.kind=5∨x.kind=2) (h2:e.kind=2) (hb:e.bytes≠[]):GR (l++[x]++[e])
inductive GJ:List Evt→Prop
  |nil:GJ []
  |other {l:List Evt} {e:Evt} (h:GJ l) (h2:e.kind≠2) (h5:e.kind=5→e.part.bytes=[]):GJ (l++[e])
  |body {l:List Evt} {x e:Evt} (h:GJ (l++[x])) (hx:x.kind=5) (h2:e.kind=2) (hb:e.bytes≠[]):GJ (l++[x]++[e])
theorem zfh {l:List Evt} {x:Evt} (h:GR (l++[x])): ∃ z y,yI (l++[x])=z++[y]∧y.kind=x.kind∧(x.kind≠2→y=x):=by
  rw [sN]
  rcases List.eq_nil_or_concat (yI l) with hn|⟨z,y,hz⟩
  · rw [hn,uY];exact⟨[],x,rfl,rfl,fun _=>rfl⟩
  · rw [hz,List.concat_eq_append,wo]
    split
    · rename_i h;exact⟨z,_,rfl,h.1.symm,fun k=>absurd h.1 k⟩
    · exact⟨z++[y],x,rfl,rfl,fun _=>rfl⟩
theorem zfl {z:List Evt} {y:Evt} (h:GJ (z++[y])) (k:y.kind=2): ∃ l x,z=l++[x]∧GJ (l++[x])∧x.kind=5∧y.bytes≠[]:=by
  generalize hw:z++[y]=w at h
  cases h with
  |nil=>simp at hw
  | other h h2 h5=>
    have:=List.append_inj' hw rfl
    have e:=List.singleton_inj.1 this.2
    exact absurd (e▸k) h2
  | body h hx h2 hb=>
    have:=List.append_inj' hw rfl
    have e:=List.singleton_inj.1 this.2
    exact⟨_,_,this.1,h,hx,by rw [e];exact hb⟩
theorem zg6 {l:List Evt} (h:GR l):GJ (yI l):=by
  induction h with
  |nil=>exact .nil
  | @other l e h h2 h5 ih=>
    rw [sN]
    rcases List.eq_nil_or_concat (yI l) with hn|⟨z,y,hz⟩
    · rw [hn,uY];exact GJ.other (l:=[]) .nil h2 h5
    · rw [hz,List.concat_eq_append] at ih ⊢
      rw [wo,if_neg (fun k=>h2 k.1)]
      exact .other ih h2 h5
  | @body l x e h hx h2 hb ih=>
    obtain⟨z,y,hz,hk,hy⟩:=zfh h
    rw [sN,hz,wo]
    rw [hz] at ih
    by_cases k:y.kind=2
    · rw [if_pos ⟨h2,k⟩]
      obtain⟨l',x',rfl,g1,g2,g3⟩:=zfl ih k
      refine .body g1 g2 rfl ?_
      simp only [evB]
      intro h;exact g3 (List.append_eq_nil_iff.1 h).1
    · rw [if_neg (fun h=>k h.2)]
      exact .body ih (by rcases hx with hx|hx;rw [hk];exact hx;exact absurd (hk.trans hx) k) h2 hb
def GI (l:List Evt) (i:Nat) (d:Evt):Prop:=((l.getD i d).kind=2→(l.getD i d).bytes≠[]∧∃ j,i=j+1∧(l.getD j d).kind=5)∧((l.getD i d).kind=5→(l.getD i d).part.bytes=[])
theorem UM {a b:List Evt} {i:Nat} (h:i<a.length) (d:Evt):(a++b).getD i d=a.getD i d:=by
  rw [List.getD_eq_getElem?_getD,List.getElem?_append_left h,← List.getD_eq_getElem?_getD]
theorem zg7 {l:List Evt} (h:GJ l) (d:Evt): ∀ i,i<l.length→GI l i d:=by
  induction h with
  |nil=>intro i hi;simp at hi
  | @other l e h h2 h5 ih=>
    intro i hi
    rw [List.length_append,List.length_singleton] at hi
    by_cases k:i<l.length
    · obtain⟨a,b⟩:=ih i k
      unfold GI
      rw [UM k]
      refine⟨fun q=> ?_,b⟩
      obtain⟨a1,j,rfl,a2⟩:=a q
      exact⟨a1,j,rfl,by rw [UM (by omega)];exact a2⟩
    · have e1:(l++[e]).getD i d=e:=by rw [show i=l.length by omega];simp
      unfold GI
      rw [e1]
      exact⟨fun q=>absurd q h2,h5⟩
  | @body l x e h hx h2 hb ih=>
    intro i hi
    rw [List.length_append,List.length_singleton] at hi
    by_cases k:i<(l++[x]).length
    · obtain⟨a,b⟩:=ih i k
      unfold GI
      rw [UM k]
      refine⟨fun q=> ?_,b⟩
      obtain⟨a1,j,rfl,a2⟩:=a q
      exact⟨a1,j,rfl,by rw [UM (by omega)];exact a2⟩
    · have hl:(l++[x]).length=l.length+1:=by simp
      have hi2:i=l.length+1:=by omega
      subst hi2
      have e1:(l++[x]++[e]).getD (l.length+1) d=e:=by rw [← hl];simp
      have e2:(l++[x]++[e]).getD l.length d=x:=by rw [UM (by omega)];simp
      unfold GI
      rw [e1]
      exact⟨fun _=>⟨hb,l.length,rfl,by rw [e2];exact hx⟩,fun q=>absurd (h2.symm.trans q) (by decide)⟩
def GM (f:Fm):Prop:=GR f.out∧(f.pos=6→∃ l x,f.out=l++[x]∧(x.kind=5∨x.kind=2))
theorem zcf {f:Fm} (h:GR f.out) {e:Evt} (h2:e.kind≠2) (h5:e.kind=5→e.part.bytes=[]):GR (f.out++[e]):=.other h h2 h5
theorem qi {f:Fm} (h:GM f) (c:Int):GM (zG f c):=⟨zcf h.1 (show(4:Int)≠2 by decide) (fun e=>absurd (show(4:Int)=5 from e) (by decide)),fun e=>absurd (show(8:Int)=6 from e) (by decide)⟩
theorem zdH {f:Fm} (h:GM f):GM (yD f):=by
  unfold yD
  split
  · exact qi h _
  · split
    · exact qi h _
    · exact⟨zcf h.1 (show(5:Int)≠2 by decide) (fun _=>Sl f.fields),fun _=>⟨_,_,rfl,.inl rfl⟩⟩
theorem zfk {f:Fm} (h:GM f) (s:Str):GM (xk f s):=by
  unfold xk
  split
  · exact zdH h
  · split
    · exact qi h _
    · split
      · exact qi h _
      · exact h
theorem gm_f {f:Fm} (h:GM f) (c:UInt8):GM (fmF f c):=by
  have hno: ∀ {n:Int},n≠6→n=6→∃ l x,f.out=l++[x]∧(x.kind=5∨x.kind=2):=fun a b=>absurd b a
  unfold fmF
  split
  · unfold yO
    split
    · show GR (if f.pos=6∧wM f c≠[] then f.out++[evB (wM f c)] else f.out)∧(f.pos=6→∃ l x,(if f.pos=6∧wM f c≠[] then f.out++[evB (wM f c)] else f.out)=l++[x]∧(x.kind=5∨x.kind=2))
      split
      · rename_i k
        obtain⟨l,x,e,hx⟩:=h.2 k.1
        refine⟨?_,fun _=>⟨f.out,_,rfl,.inr rfl⟩⟩
        have:=h.1
        rw [e] at this ⊢
        exact .body this hx rfl k.2
      · exact h
    · show GR (if f.pos=6 then(if wM f c≠[] then f.out++[evB (wM f c),evO] else f.out++[evO]) else f.out)∧((1:Int)=6→_)
      refine⟨?_,fun e=>absurd e (by decide)⟩
      split
      · rename_i k
        obtain⟨l,x,e,hx⟩:=h.2 k
        split
        · rename_i k2
          rw [show f.out++[evB (wM f c),evO]=f.out++[evB (wM f c)]++[evO] by simp]
          refine .other ?_ (by decide) (fun q=>absurd (show(6:Int)=5 from q) (by decide))
          have:=h.1
          rw [e] at this ⊢
          exact .body this hx rfl k2
        · exact .other h.1 (by decide) (fun q=>absurd (show(6:Int)=5 from q) (by decide))
      · exact h.1
  · split
    · unfold yc
      split
      · exact⟨h.1,fun e=>absurd (show(2:Int)=6 from e) (by decide)⟩
      · split
        · exact⟨zcf h.1 (show(3:Int)≠2 by decide) (fun e=>absurd (show(3:Int)=5 from e) (by decide)),fun e=>absurd (show(7:Int)=6 from e) (by decide)⟩
        · split
          · exact⟨h.1,fun e=>absurd (show(3:Int)=6 from e) (by decide)⟩
          · split
            · exact⟨h.1,fun e=>absurd (show(4:Int)=6 from e) (by decide)⟩
            · exact qi h 5
    · split
      · split
        · exact qi h 2
        · exact⟨h.1,fun e=>absurd (show(5:Int)=6 from e) (by decide)⟩
      · split
        · have hk:GM { f with ln:=some (lnF (lnOf f) c).1}:=h
          split
          · exact qi hk _
          · split
            · exact zfk hk _
            · exact hk
        · exact h
theorem zes: ∀ (b:Str) (f:Fm),GM f→GM (Zz f b)
  |[],f,h=>h
  |c::r,f,h=>zes r (fmF f c) (gm_f h c)
theorem zeR (s b:Str) (d:Evt): ∀ i,i<(yI (yh (fm0 s) b).out).length→GI (yI (yh (fm0 s) b).out) i d:=
  zg7 (zg6 (zes b { fm0 s with out:=[]} ⟨.nil,fun e=>absurd (show(0:Int)=6 from e) (by decide)⟩).1) d
theorem zgz {s:Str} (h:s.length≤70):FmI { fm0 s with out:=[]} 0:=by
  have h0:FmI ⟨Xl s,0,xN (Xl s),0,none,[],0,0,0,[]⟩ 0:=
    ⟨rfl,by unfold Xl;simp;omega,Int.le_refl _,by unfold Xl;simp;omega,⟨Int.le_refl _,(show(0:Int)≤2 by decide)⟩,⟨Int.le_refl _,(show(0:Int)≤12 by decide)⟩,Nat.zero_le _,(fun x hx=>by cases hx),(fun l e=>by cases e),(fun e=>absurd (show(0:Int)=5 from e) (by decide)),Nat.zero_le _⟩
  exact WB (WB h0 13) 10
theorem Ua (l:List Evt) (d:Evt) {i:Nat} (h:i<l.length):(l.take (i+1)).foldl prtS []=prtS ((l.take i).foldl prtS []) (l.getD i d):=by
  rw [List.take_succ_eq_append_getElem h,List.foldl_append]
  simp [h]
theorem zbD {l:List Evt} {d:Evt} {i:Nat} (h:i<l.length) (hg: ∀ j,j<l.length→GI l j d) (k:(l.getD i d).kind=2): ∃ z p,(l.take i).foldl prtS []=z++[p]∧p.bytes=[]∧(l.getD i d).bytes≠[]:=by
  obtain⟨hb,j,rfl,hj⟩:=(hg i h).1 k
  refine⟨(l.take j).foldl prtS [],(l.getD j d).part,?_,(hg j (by omega)).2 hj,hb⟩
  rw [Ua l d (show j<l.length by omega),prtS,if_pos hj]
theorem zdx (l:List Evt): ∀ o:List Prt,(l.foldl prtS o).length≤o.length+l.length:=by
  induction l with
  |nil=>intro o;simp
  | cons e r ih=>
    intro o
    have h:=ih (prtS o e)
    have h2 :(prtS o e).length≤o.length+1:=by
      unfold prtS
      split
      · simp
      · split
        · split
          · rename_i p hp
            simp only [List.length_append,List.length_dropLast,List.length_singleton];omega
          · omega
        · omega
    rw [List.foldl_cons,List.length_cons];omega
theorem UY: ∀ (b:Str) (f:Fm) (i:Nat),FmI f i→zJ (Zz f b).out+(Zz f b).held.toNat≤zJ f.out+f.held.toNat+2 * b.length
  |[],f,i,h=>by simp [Zz]
  | c::r,f,i,h=>by
    have h1:=UY r (fmF f c) (i+1) (zdS h c)
    have h2:=SV h c
    rw [List.length_cons]
    show zJ (Zz (fmF f c) r).out+(Zz (fmF f c) r).held.toNat≤_
    omega
theorem zcs {s b:Str} (h:s.length≤70):(yI (yh (fm0 s) b).out).length≤4 * b.length∧zJ (yI (yh (fm0 s) b).out)≤1000+2 * b.length:=by
  have hI:=zgz h
  have h1:(yh (fm0 s) b).out.length≤4 * (0+b.length):=(zcp b _ 0 hI).on
  have h2:zJ (yh (fm0 s) b).out+(yh (fm0 s) b).held.toNat≤0+(fm0 s).held.toNat+2 * b.length:=UY b _ 0 hI
  have h3:=Uy (yh (fm0 s) b).out
  have h4:=Ux (yh (fm0 s) b).out
  have h5:(fm0 s).held<(fm0 s).mark.length:=hI.h1
  have h6:(fm0 s).mark.length≤1000:=hI.ml
  have h7:0≤(fm0 s).held:=hI.h0
  omega
end Go.Proofs.YtknaogelmckimaaDoor
namespace Go.Proofs.YtknaogelmckimaaDoor
open Go Go.Sep Go.Ab
set_option maxRecDepth 100000
theorem zfC (s b:Str) (hneed:(s.length≤1000000∧b.length≤300000)∧vz s=true):Spc Tryd.prog 20 [.v (.one (.p (.str s))),.v (.one (.p (.list .byte b)))] [] (.ret (.tup [(.one (.p (.list .prt ((rM s b).1)))),(.one (.p (.int .i64 ((rM s b).2))))])) []:=by
  obtain⟨⟨hs,hb⟩,hm⟩:=hneed
  have hl:s.length≤70:=by unfold vz at hm;simp at hm;omega
  have hI0:=zgz hl
  have hg:=zeR s b ⟨0,⟨[],[],0,[],0⟩,[],⟨[],[],[],[]⟩,0⟩
  have hle:=zcs (b:=b) hl
  have hN:fmN0 (fm0 s) b:=⟨0,hI0,by omega⟩
  generalize hr:rM s b=r
  unfold rM at hr
  rw [hm,if_neg (by decide)] at hr
  refine spcG zl mixed Tryd.func20 (by kernel_rfl) { cfgF with rl:=[0],nr:=[8],keep:=some [0,1,4,5,6,7,8,10,11,12,23,24,25,30]} [Xn,Xm,ZB,ZA,Xk,Xj] (by kernel_rfl) ?_
  intro I X hI hX
  refine zi (let y0:=I.hid (α:=(List Go.Ab.Evt)) (yI (Go.Ab.Fm.out (yh (I.hid (α:=Go.Ab.Fm) (fm0 s)) b)));.need (I.hid (α:=(Prop)) (And (LE.le (List.length s) 1000000) (Eq (vz s) Bool.true))) (.br (I.bnot (I.ieq 0 0)) (.fin (.ret (.tup [(.one (.p (.list .prt ([]:List Go.Ab.Prt)))),(.one (.p (.int .i64 0)))])) []) (.need (I.hid (α:=(Prop)) (fmN0 (I.hid (α:=Go.Ab.Fm) (fm0 s)) b)) (.code 0 [1,1,1,1,0,1,0] ⟨[(25,(.v (.one (.p (.int .i64 0))))),(24,(.v (.one (.p (.int .i64 (I.len (α:=Go.Ab.Evt) y0)))))),(23,(.v (.one (.row 2)))),(8,(.v (.one (.row 1)))),(7,(.v (.one (.p (.int .i64 0))))),(6,(.v (.one (.ptr 0 0)))),(5,(.v (.one (.p (.int .i64 0))))),(4,(.v (.one .nilS))),(0,(.v (.one (.p (.str s))))),(1,(.v (.one (.p (.list .byte b)))))],[(.abs (.fm (I.hid (α:=Go.Ab.Fm) (yh (I.hid (α:=Go.Ab.Fm) (fm0 s)) b)))),(.row .prt 39 ([]:List Go.Ab.Prt)),(.row .evt 63 y0)],62,none⟩)))) (by kernel_rfl) ?_
  simp only [zq]
  generalize fm0 s=F0 at *
  refine⟨?_,fun c=> ?_,fun _=>⟨?_,?_⟩⟩
  · subst hI;exact⟨hs,hm⟩
  · subst hI;exact absurd c (by decide)
  · subst hI;exact hN
  rw [show I.hid F0=F0 by subst hI;rfl]
  rw [show I.hid (yh F0 b)=yh F0 b by subst hI;rfl]
  generalize yh F0 b=F at *
  rw [show I.hid (yI F.out)=yI F.out by subst hI;rfl]
  generalize yI F.out=L at *
  refine zF hI zl mixed [Xn,Xm,ZB,ZA,Xk,Xj] hX [6,8,23,24,25] (fun(g:Nat × List Prt)=>match g with|(i,o)=>i≤L.length∧o=(L.take i).foldl prtS []) (fun(g:Nat × List Prt)=>match g with|(i,o)=>⟨[(6,.v (.one (.ptr 0 0))),(8,.v (.one (.row 1))),(23,.v (.one (.row 2))),(24,.v (.one (.p (.int .i64 ((I.len (α:=Evt) L)))))),(25,.v (.one (.p (.int .i64 i))))],[.abs (.fm F),.row .prt 39 o,.row .evt 63 L],62,none⟩) (fun(g:Nat × List Prt)=>match g with|(i,o)=>L.length - i) (0,[]) (by kernel_rfl) (by kernel_rfl) ?_ ?_
  · exact⟨Nat.zero_le _,rfl⟩
  rintro⟨i,o⟩ ⟨h1,h2⟩ A hA
  simp only at hA h1 h2
  refine zi (let y0:=I.get (α:=Go.Ab.Evt) L (Go.Ab.Evt.mk (0:Int) (Hd.mk ([]:Str) ([]:Str) (0:Int) ([]:List Fld) (0:Int)) ([]:Str) (Go.Ab.Prt.mk ([]:Str) ([]:Str) ([]:Str) ([]:Str)) (0:Int)) (Nat.cast i);let y6:=I.sub (I.len (α:=Go.Ab.Prt) o) 1;let y1:=I.get (α:=Go.Ab.Prt) o (Go.Ab.Prt.mk ([]:Str) ([]:Str) ([]:Str) ([]:Str)) y6;let y2:=I.inb y6 (I.len (α:=Go.Ab.Prt) o);let y3:=I.inr Go.IntKind.i64 (I.add (Nat.cast i) 1);let y4:=I.inb (Nat.cast i) (I.len (α:=Go.Ab.Evt) L);let y5:=I.len (α:=UInt8) (Go.Ab.Evt.bytes y0);.br (I.ilt (Nat.cast i) (I.len (α:=Go.Ab.Evt) L)) (.need y4 (.need y4 (.br (I.ieq (Go.Ab.Evt.kind y0) 5) (.need (I.few (I.add (I.len (α:=Go.Ab.Prt) o) (I.len (α:=Go.Ab.Prt) ([(Go.Ab.Prt.mk (Go.Ab.Prt.name (Go.Ab.Evt.part y0)) (Go.Ab.Prt.file (Go.Ab.Evt.part y0)) (Go.Ab.Prt.type (Go.Ab.Evt.part y0)) (Go.Ab.Prt.bytes (Go.Ab.Evt.part y0)))]:List Go.Ab.Prt))) 100000000) (.need y3 (.need (A ⟨[(6,(.v (.one (.ptr 0 0)))),(8,(.v (.one (.row 1)))),(23,(.v (.one (.row 2)))),(24,(.v (.one (.p (.int .i64 (I.len (α:=Go.Ab.Evt) L)))))),(25,(.v (.one (.p (.int .i64 (I.add (Nat.cast i) 1))))))],[(.abs (.fm F)),(.row .prt 39 (I.app (α:=Go.Ab.Prt) o ([(Go.Ab.Prt.mk (Go.Ab.Prt.name (Go.Ab.Evt.part y0)) (Go.Ab.Prt.file (Go.Ab.Evt.part y0)) (Go.Ab.Prt.type (Go.Ab.Evt.part y0)) (Go.Ab.Prt.bytes (Go.Ab.Evt.part y0)))]:List Go.Ab.Prt))),(.row .evt 63 L)],62,none⟩) .qed))) (.br (I.ieq (Go.Ab.Evt.kind y0) 2) (.need (I.inr Go.IntKind.i64 y6) (.need y2 (.need y2 (.need (I.same (α:=Int) (I.len (α:=UInt8) (Go.Ab.Prt.bytes y1)) 0) (.need (I.few y5 140737488355328) (.need (I.nne y5) (.need y2 (.need y3 (.need (A ⟨[(6,(.v (.one (.ptr 0 0)))),(8,(.v (.one (.row 1)))),(23,(.v (.one (.row 2)))),(24,(.v (.one (.p (.int .i64 (I.len (α:=Go.Ab.Evt) L)))))),(25,(.v (.one (.p (.int .i64 (I.add (Nat.cast i) 1))))))],[(.abs (.fm F)),(.row .prt 39 (I.set (α:=Go.Ab.Prt) o y6 (Go.Ab.Prt.mk (Go.Ab.Prt.name y1) (Go.Ab.Prt.file y1) (Go.Ab.Prt.type y1) (Go.Ab.Evt.bytes y0)))),(.row .evt 63 L)],62,none⟩) .qed))))))))) (.need y3 (.need (A ⟨[(6,(.v (.one (.ptr 0 0)))),(8,(.v (.one (.row 1)))),(23,(.v (.one (.row 2)))),(24,(.v (.one (.p (.int .i64 (I.len (α:=Go.Ab.Evt) L)))))),(25,(.v (.one (.p (.int .i64 (I.add (Nat.cast i) 1))))))],[(.abs (.fm F)),(.row .prt 39 o),(.row .evt 63 L)],62,none⟩) .qed)))))) (.need (I.hid (α:=(Prop)) True) (.br (I.bnot (I.ieq (I.hid (α:=Int) (yY F)) 0)) (.fin (.ret (.tup [(.one (.p (.list .prt ([]:List Go.Ab.Prt)))),(.one (.p (.int .i64 (I.hid (α:=Int) (yY F)))))])) []) (.fin (.ret (.tup [(.one (.p (.list .prt o))),(.one (.p (.int .i64 0)))])) [])))) (by kernel_rfl) ?_
  simp only [zq]
  subst hI
  simp only [nrmA,nrmB,nrlB,reduceCtorEq]
  have hlo:=zdx (L.take i) []
  rw [← h2,List.length_take,List.length_nil] at hlo
  have hb2:i<L.length→_→_:=fun h k=>zbD h hg k
  have hs2:i<L.length→_:=fun h=>Ua L ⟨0,⟨[],[],0,[],0⟩,[],⟨[],[],[],[]⟩,0⟩ h
  have hsum:i<L.length→(L.getD i ⟨0,⟨[],[],0,[],0⟩,[],⟨[],[],[],[]⟩,0⟩).bytes.length≤zJ L:=fun h=>by
    refine Xw ?_
    rw [show L.getD i ⟨0,⟨[],[],0,[],0⟩,[],⟨[],[],[],[]⟩,0⟩=L[i] by simp [h]]
    exact List.getElem_mem h
  rw [← h2] at hb2 hs2
  have hgo:i<L.length→_:=fun h=>hA (i+1,prtS o (L.getD i ⟨0,⟨[],[],0,[],0⟩,[],⟨[],[],[],[]⟩,0⟩)) ⟨by simp only;omega,by simp only;rw [hs2 h]⟩ (by simp only;omega)
  have hend: ¬ i<L.length→L.foldl prtS []=o:=fun h=>by rw [h2,List.take_of_length_le (by omega)]
  clear hg hs2 hA
  generalize L.getD i ⟨0,⟨[],[],0,[],0⟩,[],⟨[],[],[],[]⟩,0⟩=x at *
  simp only [Int.natCast_add,Int.natCast_one] at hgo
  refine⟨fun c=> ?_,fun c=> ?_⟩
  · have hgo:=hgo (by omega)
    have hb2:=hb2 (by omega)
    have hsum:=hsum (by omega)
    by_cases k5:x.kind=5
    · rw [prtS,if_pos k5] at hgo
      (repeat' (first|refine And.intro ?_ ?_|intro _))<;>first|omega|exact True.intro|exact False.elim ‹False›|skip
      all_goals first
        |omega
        |(simp only [List.length_singleton];omega)
        |exact hgo
        |exact absurd k5 ‹_›
    · by_cases k2:x.kind=2
      · obtain⟨z,p,hz,hp,hxb⟩:=hb2 k2
        have hxb:0<x.bytes.length:=by cases hq:x.bytes with|nil=>exact absurd hq hxb|cons _ _=>simp
        subst hz
        rw [show prtS (z++[p]) x=z++[⟨p.name,p.file,p.type,x.bytes⟩] by unfold prtS;rw [if_neg k5,if_pos k2];simp [hp]] at hgo
        have e1:(((z++[p]).length:Int) - 1).toNat=z.length:=by rw [List.length_append,List.length_singleton];omega
        have e2:(z++[p]).getD z.length ⟨[],[],[],[]⟩=p:=by simp
        have e3: ∀ q,(z++[p]).set z.length q=z++[q]:=fun q=>by simp
        simp only [e1,e2,e3,hp]
        simp only [List.length_append,List.length_singleton,List.length_nil]
        clear e1 e2 e3
        rw [List.length_append,List.length_singleton] at hlo
        (repeat' (first|refine And.intro ?_ ?_|intro _))<;>first|omega|exact True.intro|exact False.elim ‹False›|skip
        all_goals first
          |omega
          |exact hgo
          |exact absurd k2 ‹_›
          |exact absurd ‹x.kind=5› k5
      · rw [prtS,if_neg k5,if_neg k2] at hgo
        (repeat' (first|refine And.intro ?_ ?_|intro _))<;>first|omega|exact True.intro|exact False.elim ‹False›|skip
        all_goals first
          |omega
          |exact hgo
          |exact absurd ‹x.kind=5› k5
          |exact absurd ‹x.kind=2› k2
  · have he:=hend (by omega)
    rw [he] at hr
    subst hr
    (repeat' (first|refine And.intro ?_ ?_|intro _))<;>first|omega|exact True.intro|exact False.elim ‹False›|skip
    all_goals first
      |omega
      |(rw [if_pos ‹¬ yY F=0›];done)
      |(rw [if_neg (fun h=>h ‹yY F=0›)];done)
end Go.Proofs.YtknaogelmckimaaDoor
namespace Go.Proofs.YtknaogelmckimaaDoor
open Go Go.Sep Go.Ab
set_option maxRecDepth 100000
theorem zfs (s:Str) (hneed:s.length≤1000000∧vz s=false):Spc Tryd.prog 7 [.v (.one (.p (.str s)))] [] (.ret (.tup [(.one (.p (.val (.pointer none)))),(.one (.p (.int .i64 5)))])) []:=zft s hneed
def qV (I:Alg) (args:List D) (hp:List HO):Option CT:=match args,hp with
  |[.v (.one (.p (.str s)))],[]=>(fun(s:Str)=>(some (.one ⟨I.hid (s.length≤1000000∧vz s=false),(.ret (.tup [(.one (.p (.val (.pointer none)))),(.one (.p (.int .i64 5)))])),[]⟩):Option CT)) s
  |_,_=>none
theorem U1:zy Tryd.prog 7 (qV alg):=by
  intro args hp r h
  unfold qV at h
  split at h
  · cases h;exact fun hn=>zfs _ hn
  · cases h
def zcr:Know Tryd.prog:=⟨7,qV,U1⟩
def zcq:Know Tryd.prog:=⟨7,fun I=>zC I (qV I),zf U1⟩
theorem zdQ (b:Str) (hneed:False):Spc Tryd.prog 9 [.v (.one (.p (.val (.pointer none)))),.v (.one (.p (.list .byte b)))] [] (.ret (.v (.one (.row 0)))) [.row .evt 63 (([]:List Evt))]:=hneed.elim
def sS (I:Alg) (args:List D) (hp:List HO):Option CT:=match args,hp with
  |[.v (.one (.p (.val (.pointer none)))),.v (.one (.p (.list .byte b)))],[]=>(fun(b:Str)=>(some (.one ⟨I.hid (False),(.ret (.v (.one (.row 0)))),[.row .evt 63 (I.hid (([]:List Evt)))]⟩):Option CT)) b
  |_,_=>none
theorem WC:zy Tryd.prog 9 (sS alg):=by
  intro args hp r h
  unfold sS at h
  split at h
  · cases h;exact fun hn=>zdQ _ hn
  · cases h
def za5:Know Tryd.prog:=⟨9,sS,WC⟩
def za4:Know Tryd.prog:=⟨9,fun I=>zC I (sS I),zf WC⟩
theorem zfB (s b:Str) (hneed:(s.length≤1000000∧b.length≤300000)∧vz s=false):Spc Tryd.prog 20 [.v (.one (.p (.str s))),.v (.one (.p (.list .byte b)))] [] (.ret (.tup [(.one (.p (.list .prt ((rM s b).1)))),(.one (.p (.int .i64 ((rM s b).2))))])) []:=by
  obtain⟨⟨hs,hb⟩,hm⟩:=hneed
  generalize hr:rM s b=r
  unfold rM at hr
  rw [if_pos hm] at hr
  subst hr
  refine spcG zl mixed Tryd.func20 (by kernel_rfl) { cfgF with rl:=[0],nr:=[8],keep:=some [0,1,4,5,6,7,8,10,11,12,23,24,25,30]} [Xn,Xm,za5,za4,ZB,ZA,zcr,zcq] (by kernel_rfl) ?_
  intro I X hI hX
  refine zi (let y0:=I.hid (α:=(List Go.Ab.Evt)) ([]:List Go.Ab.Evt);.need (I.hid (α:=(Prop)) (And (LE.le (List.length s) 1000000) (Eq (vz s) Bool.false))) (.br (I.bnot (I.ieq 5 0)) (.fin (.ret (.tup [(.one (.p (.list .prt ([]:List Go.Ab.Prt)))),(.one (.p (.int .i64 5)))])) []) (.need (I.hid (α:=(Prop)) False) (.code 0 [1,1,1,1,0,1,0] ⟨[(25,(.v (.one (.p (.int .i64 0))))),(24,(.v (.one (.p (.int .i64 (I.len (α:=Go.Ab.Evt) y0)))))),(23,(.v (.one (.row 1)))),(8,(.v (.one (.row 0)))),(7,(.v (.one (.p (.int .i64 5))))),(6,(.v (.one (.p (.val (.pointer .none)))))),(5,(.v (.one (.p (.int .i64 0))))),(4,(.v (.one .nilS))),(0,(.v (.one (.p (.str s))))),(1,(.v (.one (.p (.list .byte b)))))],[(.row .prt 39 ([]:List Go.Ab.Prt)),(.row .evt 63 y0)],62,none⟩)))) (by kernel_rfl) ?_
  simp only [zq]
  subst hI
  simp only [nrmA,nrmB,nrlB,reduceCtorEq]
  exact⟨⟨hs,hm⟩,fun _=>trivial,by decide⟩
theorem zgE (s b:Str) (hneed:s.length≤1000000∧b.length≤300000):Spc Tryd.prog 20 [.v (.one (.p (.str s))),.v (.one (.p (.list .byte b)))] [] (.ret (.tup [(.one (.p (.list .prt ((rM s b).1)))),(.one (.p (.int .i64 ((rM s b).2))))])) []:=by
  cases hm:vz s with
  |true=>exact zfC s b ⟨hneed,hm⟩
  |false=>exact zfB s b ⟨hneed,hm⟩
def YG (I:Alg) (args:List D) (hp:List HO):Option CT:=match args,hp with
  |[.v (.one (.p (.str s))),.v (.one (.p (.list .byte b)))],[]=>(fun(s b:Str)=>(some (.one ⟨I.hid (s.length≤1000000∧b.length≤300000),(.ret (.tup [(.one (.p (.list .prt (I.hid ((rM s b).1))))),(.one (.p (.int .i64 (I.hid ((rM s b).2)))))])),[]⟩):Option CT)) s b
  |_,_=>none
theorem zac:zy Tryd.prog 20 (YG alg):=by
  intro args hp r h
  unfold YG at h
  split at h
  · cases h;exact fun hn=>zgE _ _ hn
  · cases h
def zd1:Know Tryd.prog:=⟨20,YG,zac⟩
def zd0:Know Tryd.prog:=⟨20,fun I=>zC I (YG I),zf zac⟩
def begB:Str:=[45,45,88,13,10,67,111,110,116,101,110,116,45,68,105,115,112,111,115,105,116,105,111,110,58,32,102,111,114,109,45,100,97,116,97,59,32,110,97,109,101,61,97,13,10,13,10,98,13,10,45,45,88,45,45]
theorem zcZ:rM [88] begB=([⟨[97],[],[],[98]⟩],0):=by decide+kernel
theorem za1:Spc Tryd.prog 6 [] [] (.ret (.v (.one (.p (.bool true))))) []:=by
  refine spcG zl mixed Tryd.func6 (by kernel_rfl) { fz:=[20],keep:=some [0,1,2]} [rC,ru,VB,VA,zd1,zd0] (by kernel_rfl) ?_
  intro I X hI hX
  refine zi (let y0:=I.hid (α:=(List Go.Ab.Prt)) (Prod.fst (rM ([88]:Str) ([(I.i2b 45),(I.i2b 45),(I.i2b 88),(I.i2b 13),(I.i2b 10),(I.i2b 67),(I.i2b 111),(I.i2b 110),(I.i2b 116),(I.i2b 101),(I.i2b 110),(I.i2b 116),(I.i2b 45),(I.i2b 68),(I.i2b 105),(I.i2b 115),(I.i2b 112),(I.i2b 111),(I.i2b 115),(I.i2b 105),(I.i2b 116),(I.i2b 105),(I.i2b 111),(I.i2b 110),(I.i2b 58),(I.i2b 32),(I.i2b 102),(I.i2b 111),(I.i2b 114),(I.i2b 109),(I.i2b 45),(I.i2b 100),(I.i2b 97),(I.i2b 116),(I.i2b 97),(I.i2b 59),(I.i2b 32),(I.i2b 110),(I.i2b 97),(I.i2b 109),(I.i2b 101),(I.i2b 61),(I.i2b 97),(I.i2b 13),(I.i2b 10),(I.i2b 13),(I.i2b 10),(I.i2b 98),(I.i2b 13),(I.i2b 10),(I.i2b 45),(I.i2b 45),(I.i2b 88),(I.i2b 45),(I.i2b 45)]:Str)));let y1:=I.inb 0 (I.len (α:=Go.Ab.Prt) y0);let y2:=I.get (α:=Go.Ab.Prt) y0 (Go.Ab.Prt.mk ([]:Str) ([]:Str) ([]:Str) ([]:Str)) 0;let y3:=([47,46,46,47,46,97,34]:Str);.need (I.inr Go.IntKind.u8 45) (.need (I.inr Go.IntKind.u8 45) (.need (I.inr Go.IntKind.u8 88) (.need (I.inr Go.IntKind.u8 13) (.need (I.inr Go.IntKind.u8 10) (.need (I.inr Go.IntKind.u8 67) (.need (I.inr Go.IntKind.u8 111) (.need (I.inr Go.IntKind.u8 110) (.need (I.inr Go.IntKind.u8 116) (.need (I.inr Go.IntKind.u8 101) (.need (I.inr Go.IntKind.u8 110) (.need (I.inr Go.IntKind.u8 116) (.need (I.inr Go.IntKind.u8 45) (.need (I.inr Go.IntKind.u8 68) (.need (I.inr Go.IntKind.u8 105) (.need (I.inr Go.IntKind.u8 115) (.need (I.inr Go.IntKind.u8 112) (.need (I.inr Go.IntKind.u8 111) (.need (I.inr Go.IntKind.u8 115) (.need (I.inr Go.IntKind.u8 105) (.need (I.inr Go.IntKind.u8 116) (.need (I.inr Go.IntKind.u8 105) (.need (I.inr Go.IntKind.u8 111) (.need (I.inr Go.IntKind.u8 110) (.need (I.inr Go.IntKind.u8 58) (.need (I.inr Go.IntKind.u8 32) (.need (I.inr Go.IntKind.u8 102) (.need (I.inr Go.IntKind.u8 111) (.need (I.inr Go.IntKind.u8 114) (.need (I.inr Go.IntKind.u8 109) (.need (I.inr Go.IntKind.u8 45) (.need (I.inr Go.IntKind.u8 100) (.need (I.inr Go.IntKind.u8 97) (.need (I.inr Go.IntKind.u8 116) (.need (I.inr Go.IntKind.u8 97) (.need (I.inr Go.IntKind.u8 59) (.need (I.inr Go.IntKind.u8 32) (.need (I.inr Go.IntKind.u8 110) (.need (I.inr Go.IntKind.u8 97) (.need (I.inr Go.IntKind.u8 109) (.need (I.inr Go.IntKind.u8 101) (.need (I.inr Go.IntKind.u8 61) (.need (I.inr Go.IntKind.u8 97) (.need (I.inr Go.IntKind.u8 13) (.need (I.inr Go.IntKind.u8 10) (.need (I.inr Go.IntKind.u8 13) (.need (I.inr Go.IntKind.u8 10) (.need (I.inr Go.IntKind.u8 98) (.need (I.inr Go.IntKind.u8 13) (.need (I.inr Go.IntKind.u8 10) (.need (I.inr Go.IntKind.u8 45) (.need (I.inr Go.IntKind.u8 45) (.need (I.inr Go.IntKind.u8 88) (.need (I.inr Go.IntKind.u8 45) (.need (I.inr Go.IntKind.u8 45) (.need (I.inb 0 (I.len (α:=UInt8) ([(I.i2b 45),(I.i2b 45),(I.i2b 88),(I.i2b 13),(I.i2b 10),(I.i2b 67),(I.i2b 111),(I.i2b 110),(I.i2b 116),(I.i2b 101),(I.i2b 110),(I.i2b 116),(I.i2b 45),(I.i2b 68),(I.i2b 105),(I.i2b 115),(I.i2b 112),(I.i2b 111),(I.i2b 115),(I.i2b 105),(I.i2b 116),(I.i2b 105),(I.i2b 111),(I.i2b 110),(I.i2b 58),(I.i2b 32),(I.i2b 102),(I.i2b 111),(I.i2b 114),(I.i2b 109),(I.i2b 45),(I.i2b 100),(I.i2b 97),(I.i2b 116),(I.i2b 97),(I.i2b 59),(I.i2b 32),(I.i2b 110),(I.i2b 97),(I.i2b 109),(I.i2b 101),(I.i2b 61),(I.i2b 97),(I.i2b 13),(I.i2b 10),(I.i2b 13),(I.i2b 10),(I.i2b 98),(I.i2b 13),(I.i2b 10),(I.i2b 45),(I.i2b 45),(I.i2b 88),(I.i2b 45),(I.i2b 45)]:Str))) (.need (I.hid (α:=(Prop)) (And (LE.le (List.length ([88]:Str)) 1000000) (LE.le (List.length ([(I.i2b 45),(I.i2b 45),(I.i2b 88),(I.i2b 13),(I.i2b 10),(I.i2b 67),(I.i2b 111),(I.i2b 110),(I.i2b 116),(I.i2b 101),(I.i2b 110),(I.i2b 116),(I.i2b 45),(I.i2b 68),(I.i2b 105),(I.i2b 115),(I.i2b 112),(I.i2b 111),(I.i2b 115),(I.i2b 105),(I.i2b 116),(I.i2b 105),(I.i2b 111),(I.i2b 110),(I.i2b 58),(I.i2b 32),(I.i2b 102),(I.i2b 111),(I.i2b 114),(I.i2b 109),(I.i2b 45),(I.i2b 100),(I.i2b 97),(I.i2b 116),(I.i2b 97),(I.i2b 59),(I.i2b 32),(I.i2b 110),(I.i2b 97),(I.i2b 109),(I.i2b 101),(I.i2b 61),(I.i2b 97),(I.i2b 13),(I.i2b 10),(I.i2b 13),(I.i2b 10),(I.i2b 98),(I.i2b 13),(I.i2b 10),(I.i2b 45),(I.i2b 45),(I.i2b 88),(I.i2b 45),(I.i2b 45)]:Str)) 300000))) (.br (I.ieq (I.hid (α:=Int) (Prod.snd (rM ([88]:Str) ([(I.i2b 45),(I.i2b 45),(I.i2b 88),(I.i2b 13),(I.i2b 10),(I.i2b 67),(I.i2b 111),(I.i2b 110),(I.i2b 116),(I.i2b 101),(I.i2b 110),(I.i2b 116),(I.i2b 45),(I.i2b 68),(I.i2b 105),(I.i2b 115),(I.i2b 112),(I.i2b 111),(I.i2b 115),(I.i2b 105),(I.i2b 116),(I.i2b 105),(I.i2b 111),(I.i2b 110),(I.i2b 58),(I.i2b 32),(I.i2b 102),(I.i2b 111),(I.i2b 114),(I.i2b 109),(I.i2b 45),(I.i2b 100),(I.i2b 97),(I.i2b 116),(I.i2b 97),(I.i2b 59),(I.i2b 32),(I.i2b 110),(I.i2b 97),(I.i2b 109),(I.i2b 101),(I.i2b 61),(I.i2b 97),(I.i2b 13),(I.i2b 10),(I.i2b 13),(I.i2b 10),(I.i2b 98),(I.i2b 13),(I.i2b 10),(I.i2b 45),(I.i2b 45),(I.i2b 88),(I.i2b 45),(I.i2b 45)]:Str)))) 0) (.br (I.ieq (I.len (α:=Go.Ab.Prt) y0) 1) (.need y1 (.need y1 (.br (I.seq (Go.Ab.Prt.name y2) ([97]:Str)) (.need y1 (.need y1 (.br (I.seq (Go.Ab.Prt.bytes y2) ([98]:Str)) (.need (I.hid (α:=(Prop)) (LE.le (List.length y3) 1000000)) (.br (I.seq (I.hid (α:=Str) (uN y3)) ([97,95]:Str)) (.need (I.hid (α:=(Prop)) (LE.le (List.length ([88]:Str)) 1000000)) (.fin (.ret (.v (.one (.p (.bool (I.hid (α:=Bool) (vz ([88]:Str)))))))) [])) (.fin (.ret (.v (.one (.p (.bool Bool.false))))) []))) (.fin (.ret (.v (.one (.p (.bool Bool.false))))) [])))) (.fin (.ret (.v (.one (.p (.bool Bool.false))))) [])))) (.fin (.ret (.v (.one (.p (.bool Bool.false))))) [])) (.fin (.ret (.v (.one (.p (.bool Bool.false))))) []))))))))))))))))))))))))))))))))))))))))))))))))))))))))))) (by kernel_rfl) ?_
  simp only [zq]
  subst hI
  simp only [nrmA,nrmB,nrlB,reduceCtorEq]
  generalize hR:rM [88] _=R
  have hR:=hR.symm.trans zcZ
  subst hR
  have hs:uN [47,46,46,47,46,97,34]=[97,95]:=by decide+kernel
  have hm:vz [88]=true:=by decide+kernel
  simp only [hs,hm]
  (repeat' (first|refine And.intro ?_ ?_|intro _))<;>first|omega|exact True.intro|exact False.elim ‹False›|skip
  all_goals first
    |omega
    |decide+kernel
    |(simp;done)
def wX (I:Alg) (args:List D) (hp:List HO):Option CT:=match args,hp with
  |[],[]=>(fun(_:Unit)=>(some (.one ⟨I.hid (True),(.ret (.v (.one (.p (.bool true))))),[]⟩):Option CT)) ()
  |_,_=>none
theorem Z8:zy Tryd.prog 6 (wX alg):=by
  intro args hp r h
  unfold wX at h
  split at h
  · cases h;exact fun hn=>za1
  · cases h
def wW:Know Tryd.prog:=⟨6,wX,Z8⟩
def wV:Know Tryd.prog:=⟨6,fun I=>zC I (wX I),zf Z8⟩
end Go.Proofs.YtknaogelmckimaaDoor
namespace Go.Proofs.YtknaogelmckimaaDoor
open Go Go.Sep Go.Ab
set_option maxRecDepth 100000
def okc (c:UInt8):Prop:=c≠47∧c≠92∧c≠9∧c≠34∧c≠58∧vK (c.toNat:Int)=true
structure GS (b:Str):Prop where
  all: ∀ c ∈ b,okc c
  hd:b.head?≠some 46
theorem zer:GS []:=⟨fun c h=>absurd h List.not_mem_nil,by simp⟩
theorem zcc {b:Str} {c:UInt8} (h:GS b) (k:okc c) (q:b=[]→c≠46):GS (b++[c]):=by
  refine⟨fun x hx=> ?_,?_⟩
  · rcases List.mem_append.1 hx with h5|h5
    · exact h.all x h5
    · rw [List.mem_singleton.1 h5];exact k
  · cases b with
    |nil=>simp only [List.nil_append,List.head?_cons];intro e;exact q rfl (Option.some.inj e)
    |cons a r=>exact h.hd
theorem zfg {b:Str} (h:GS b) (c:UInt8):GS (ve b c):=by
  unfold ve
  split
  · exact zer
  · rename_i h1
    split
    · exact zcc h (by unfold okc;decide+kernel) (fun _=>by decide)
    · rename_i h2
      split
      · exact h
      · rename_i h3
        refine zcc h ⟨fun e=>h1 (.inl e),fun e=>h1 (.inr e),fun e=>h2 (.inl e),fun e=>h2 (.inr (.inr (.inl e))),fun e=>h2 (.inr (.inr (.inr e))),?_⟩ (fun e q=>h3 ⟨q,e⟩)
        cases k:vK (c.toNat:Int) with
        |true=>rfl
        |false=>exact absurd (.inr (.inl k)) h2
theorem zcd: ∀ (s b:Str),GS b→GS (s.foldl ve b)
  |[],b,h=>h
  |c::r,b,h=>zcd r _ (zfg h c)
theorem zff {b:Str} (h:GS b) (n:Nat):GS (b.take n):=by
  refine⟨fun c hc=>h.all c (List.mem_of_mem_take hc),?_⟩
  cases n with
  |zero=>simp
  | succ n=>cases b with
    |nil=>simp
    |cons a r=>exact h.hd
theorem zbx: ∀ (r b:Str),(∀ c ∈ r,okc c)→(b≠[]∨r.head?≠some 46)→r.foldl ve b=b++r
  |[],b,_,_=>by simp
  | c ::r,b,h,k=>by
    obtain⟨h1,h2,h3,h4,h5,h6⟩:=h c (List.mem_cons_self ..)
    have e:ve b c=b++[c]:=by
      unfold ve
      rw [if_neg (by rintro(e|e);exact h1 e;exact h2 e),if_neg (by rintro(e|e|e|e);exact h3 e;rw [h6] at e;cases e;exact h4 e;exact h5 e),if_neg]
      rintro⟨e,q⟩
      rcases k with k|k
      · exact k q
      · exact k (by rw [e];rfl)
    rw [List.foldl_cons,e,zbx r (b++[c]) (fun x hx=>h x (List.mem_cons_of_mem _ hx)) (.inl (by simp))]
    simp
theorem zbw {n:Str} (h:GS n) (h0:n≠[]) (hl:n.length≤40):uN n=n:=by
  have e:n.foldl ve []=n:=zbx n [] h.all (.inr h.hd)
  unfold uN
  rw [e,List.take_of_length_le hl,if_neg h0]
structure GN (n:Str):Prop where
  ne:n≠[]
  gs:GS n
  le:n.length≤40
theorem SQ (s:Str):GN (uN s):=by
  unfold uN
  have hg:=zff (zcd s [] zer) 40
  split
  · refine⟨by simp,⟨?_,by simp⟩,by simp⟩
    have: ∀ c ∈ ([102,105,108,101]:Str),okc c:=by unfold okc;decide+kernel
    exact this
  · rename_i h
    exact⟨h,hg,by rw [List.length_take];omega⟩
theorem zfj (l:List Fld):(yN l).1.file=[]∨GN (yN l).1.file:=by
  have hp: ∀ f x:Str × Bool,zbE f x=[]∨GN (zbE f x):=fun f x=>by
    unfold zbE
    split
    · exact .inr (SQ _)
    · split
      · exact .inr (SQ _)
      · exact .inl rfl
  unfold yN zdz
  repeat' split
  all_goals first|exact .inl rfl|exact hp _ _
theorem zfi {n:Str} (h:GN n):xE n=true:=by
  have: ∀ c ∈ n,vK (c.toNat:Int)=true:=fun c hc=>(h.gs.all c hc).2.2.2.2.2
  unfold xE
  exact List.all_eq_true.2 this
theorem zce {l:List Fld} (h:Z5 l=false):l.length≤100∧∀ f ∈ l,f.name.length≤1000000∧f.value.length≤1000000:=by
  unfold Z5 at h
  simp only [Bool.or_eq_false_iff,decide_eq_false_iff_not,List.any_eq_false,decide_eq_true_eq] at h
  refine⟨by omega,fun f hf=> ?_⟩
  have:=h.2 f hf
  omega
theorem formSafe_ (s:Str) (l:List Fld) (hneed: ∀ f ∈ l,f.name.length≤140737488355328∧f.value.length≤140737488355328):Spc Tryd.prog 5 [.v (.one (.p (.str s))),.v (.one (.p (.list .fld l)))] [] (.ret (.v (.one (.p (.bool true))))) []:=by
  have hg:=fun h=>zce (l:=l) h
  have hf:=zfj l
  have hs:=SQ s
  refine spcG zl mixed Tryd.func5 (by kernel_rfl) { keep:=some [0,1,4,5,7,8,9,10]} [vV,vU,YA,Yz,rC,ru,rE,rD,wW,wV] (by kernel_rfl) ?_
  intro I X hI hX
  refine zi (let y0:=I.hid (α:=Str) (Go.Ab.Prt.file (Prod.fst (yN l)));.need (I.hid (α:=(Prop)) True) (.br (I.bnot Bool.true) (.fin (.ret (.v (.one (.p (.bool Bool.false))))) []) (.br (I.ilt 2000 (I.len (α:=UInt8) s)) (.fin (.ret (.v (.one (.p (.bool Bool.true))))) []) (.need (I.hid (α:=(Prop)) (∀ (f:Fld),f ∈ l→List.length f.name≤140737488355328∧List.length f.value≤140737488355328)) (.br (I.hid (α:=Bool) (Z5 l)) (.fin (.ret (.v (.one (.p (.bool Bool.true))))) []) (.need (I.hid (α:=(Prop)) (And (LE.le (List.length l) 1000) (∀ (f:Fld),f ∈ l→List.length f.name≤1000000∧List.length f.value≤1000000))) (.need (I.hid (α:=(Prop)) (LE.le (List.length s) 1000000)) (.code 0 [1,1,1,1,1,0,1,0] ⟨[(8,(.v (.one (.p (.int .i64 0))))),(7,(.v (.one (.row 1)))),(5,(.v (.one (.ptr 0 0)))),(4,(.v (.one (.p (.val (.bool .false)))))),(0,(.v (.one (.p (.str s))))),(1,(.v (.one (.p (.list .fld l)))))],[(.obj 39 [(.p (.str (I.hid (α:=Str) (Go.Ab.Prt.name (Prod.fst (yN l)))))),(.p (.str y0)),(.p (.str (I.hid (α:=Str) (Go.Ab.Prt.type (Prod.fst (yN l)))))),.nilS]),(.row .str 9 ([(I.hid (α:=Str) (uN s)),y0]:List (Str)))],101,none⟩)))))))) (by kernel_rfl) ?_
  simp only [zq]
  generalize(yN l).1.file=F at *
  generalize uN s=N at *
  (repeat' (first|refine And.intro ?_ ?_|intro _))
  all_goals try(subst hI;(simp only [nrmA,nrmB,nrlB,reduceCtorEq] at *);first
    |done
    |trivial
    |omega
    |exact hneed
    |exact(hneed _ ‹_›).1
    |exact(hneed _ ‹_›).2
    |(have:=(hg ‹_›).1;omega)
    |exact(hg ‹_›).2
    |exact⟨by have:=(hg ‹_›).1;omega,(hg ‹_›).2⟩)
  rw [show I.hid N=N by subst hI;rfl,show I.hid F=F by subst hI;rfl]
  refine zF hI zl mixed [vV,vU,YA,Yz,rC,ru,rE,rD,wW,wV] hX [7,8] (fun(j:Nat)=>j≤2) (fun(j:Nat)=>⟨[(7,.v (.one (.row 0))),(8,.v (.one (.p (.int .i64 j))))],[.row .str 9 ([N,F])],101,none⟩) (fun(j:Nat)=>2 - j) 0 (by kernel_rfl) (by kernel_rfl) ?_ ?_
  · exact Nat.zero_le _
  rintro j h1 A hA
  refine zi (let y0:=I.get (α:=Str) ([N,F]:List (Str)) ([]:Str) (Nat.cast j);let y1:=I.hid (α:=(Prop)) (LE.le (List.length y0) 1000000);let y2:HO:=.row .str 9 ([N,F]:List (Str));let y3:=I.inb (Nat.cast j) (I.len (α:=Str) ([N,F]:List (Str)));let y4:=I.bnot (I.seq (I.hid (α:=Str) (uN y0)) y0);let y5:=I.ieq (I.b2i (I.get (α:=UInt8) y0 0 0)) 46;let y6:=I.bnot (I.hid (α:=Bool) (xE y0));let y7:=I.ilt 40 (I.len (α:=UInt8) y0);.br (I.ilt (Nat.cast j) 2) (.need y3 (.need y3 (.br (I.ieq (Nat.cast j) 1) (.br (I.seq y0 ([]:Str)) (.need (I.inr Go.IntKind.i64 (I.add (Nat.cast j) 1)) (.need (A ⟨[(7,(.v (.one (.row 0)))),(8,(.v (.one (.p (.int .i64 (I.add (Nat.cast j) 1))))))],[y2],101,none⟩) .qed)) (.br (I.seq y0 ([]:Str)) (.fin (.ret (.v (.one (.p (.bool Bool.false))))) []) (.need (I.inb 0 (I.len (α:=UInt8) y0)) (.br y5 (.fin (.ret (.v (.one (.p (.bool Bool.false))))) []) (.br y7 (.fin (.ret (.v (.one (.p (.bool Bool.false))))) []) (.need y1 (.br y4 (.fin (.ret (.v (.one (.p (.bool Bool.false))))) []) (.need y1 (.br y6 (.fin (.ret (.v (.one (.p (.bool Bool.false))))) []) (.code 0 [1,0,0,1,1,1,1,0] ⟨[(10,(.v (.one (.p (.int .i64 0))))),(9,(.v (.one (.p (.str y0))))),(7,(.v (.one (.row 0)))),(8,(.v (.one (.p (.int .i64 (Nat.cast j))))))],[y2],101,none⟩)))))))))) (.br (I.seq y0 ([]:Str)) (.fin (.ret (.v (.one (.p (.bool Bool.false))))) []) (.need (I.inb 0 (I.len (α:=UInt8) y0)) (.br y5 (.fin (.ret (.v (.one (.p (.bool Bool.false))))) []) (.br y7 (.fin (.ret (.v (.one (.p (.bool Bool.false))))) []) (.need y1 (.br y4 (.fin (.ret (.v (.one (.p (.bool Bool.false))))) []) (.need y1 (.br y6 (.fin (.ret (.v (.one (.p (.bool Bool.false))))) []) (.code 0 [1,0,0,1,1,1,1,0] ⟨[(10,(.v (.one (.p (.int .i64 0))))),(9,(.v (.one (.p (.str y0))))),(7,(.v (.one (.row 0)))),(8,(.v (.one (.p (.int .i64 (Nat.cast j))))))],[y2],101,none⟩)))))))))))) (.fin (.ret (.v (.one (.p (.bool Bool.true))))) [])) (by kernel_rfl) ?_
  simp only [zq]
  generalize hn:I.get [N,F] ([]:Str) (j:Int)=n at *
  have hnn:(j=0→GN n)∧(j=1→n=[]∨GN n):=by
    subst hI
    rw [XD,Int.toNat_natCast] at hn
    refine⟨fun e=> ?_,fun e=> ?_⟩
    · subst e;rw [← hn];exact hs
    · subst e;rw [← hn];exact hf
  have hgn: ∀ q:Prop,(j<2)→(j=1→¬ n=[])→(GN n→q)→q:=fun q h k g=>by
    rcases(show j=0∨j=1 by omega) with e|e
    · exact g (hnn.1 e)
    · exact g ((hnn.2 e).resolve_left (k e))
  have hgoj:j<2→_:=fun h=>hA (j+1) (by omega) (by omega)
  have hnl:j<2→(j=1→¬ n=[])→n.length≤1000000:=fun h k=>hgn _ h k (fun g=>by have:=g.le;omega)
  have hnh:GN n→¬ ((n.getD 0 0).toNat:Int)=46:=fun g e=>by
    have e2:=(uQ (n.getD 0 0) 46 (by decide)).1 e
    refine g.gs.hd ?_
    cases n with
    |nil=>exact absurd rfl g.ne
    |cons a r=>rw [List.head?_cons];exact congrArg some e2
  (repeat' (first|refine And.intro ?_ ?_|intro _))
  all_goals try(subst hI;(simp only [nrmA,nrmB,nrlB,reduceCtorEq] at *);first
    |done
    |with_reducible exact True.intro
    |omega
    |(have hq:=hgoj (by omega);simp only [Int.natCast_add,Int.natCast_one] at hq;with_reducible assumption)
    |with_reducible exact hnl (by omega) (by first|(intro _;assumption)|(intro e;omega))
    |with_reducible exact hgn _ (by omega) (by first|(intro _;assumption)|(intro e;omega)) (fun g=>by have:=g.le;omega)
    |with_reducible exact hgn _ (by omega) (by first|(intro _;assumption)|(intro e;omega)) (fun g=>absurd ‹n=[]› g.ne)
    |with_reducible exact hgn _ (by omega) (by first|(intro _;assumption)|(intro e;omega)) (fun g=>absurd ‹_› (hnh g))
    |with_reducible exact hgn _ (by omega) (by first|(intro _;assumption)|(intro e;omega)) (fun g=>absurd (zbw g.gs g.ne g.le) ‹_›)
    |with_reducible exact hgn _ (by omega) (by first|(intro _;assumption)|(intro e;omega)) (fun g=>absurd ((zfi g).symm.trans ‹xE n=false›) (by decide))
    |(have:0<n.length:=List.length_pos_iff.2 ‹¬ n=[]›;omega)
    |(simp only [List.length_cons,List.length_nil];omega)
    |exact List.length_pos_iff.2 ‹¬ n=[]›)
  · have hG:GN n:=by
      subst hI
      simp only [nrmA,nrmB,nrlB,reduceCtorEq] at *
      exact hgn _ (by omega) (by first|(intro _;assumption)|(intro e;omega)) id
    have hj2:j<2:=by
      subst hI
      simp only [nrmA,nrmB,nrlB,reduceCtorEq] at *
      omega
    have hle:=hG.le
    clear hnn hgn hf hs hn
    refine zF hI zl mixed [vV,vU,YA,Yz,rC,ru,rE,rD,wW,wV] hX [7,8,9,10] (fun(k:Nat)=>k≤n.length) (fun(k:Nat)=>⟨[(7,.v (.one (.row 0))),(8,.v (.one (.p (.int .i64 j)))),(9,.v (.one (.p (.str n)))),(10,.v (.one (.p (.int .i64 k))))],[.row .str 9 ([N,F])],101,none⟩) (fun(k:Nat)=>n.length - k) 0 (by kernel_rfl) (by kernel_rfl) ?_ ?_
    · exact Nat.zero_le _
    rintro k h2 A2 hA2
    refine zi (let y0:=I.b2i (I.get (α:=UInt8) n 0 (Nat.cast k));let y1:=I.inb (Nat.cast k) (I.len (α:=UInt8) n);let y2:HO:=.row .str 9 ([N,F]:List (Str));.br (I.ilt (Nat.cast k) (I.len (α:=UInt8) n)) (.need y1 (.br (I.ieq y0 47) (.fin (.ret (.v (.one (.p (.bool Bool.false))))) []) (.need y1 (.br (I.ieq y0 92) (.fin (.ret (.v (.one (.p (.bool Bool.false))))) []) (.need y1 (.br (I.ieq y0 9) (.fin (.ret (.v (.one (.p (.bool Bool.false))))) []) (.need y1 (.br (I.ieq y0 34) (.fin (.ret (.v (.one (.p (.bool Bool.false))))) []) (.need y1 (.br (I.ieq y0 58) (.fin (.ret (.v (.one (.p (.bool Bool.false))))) []) (.need (I.inr Go.IntKind.i64 (I.add (Nat.cast k) 1)) (.need (A2 ⟨[(7,(.v (.one (.row 0)))),(8,(.v (.one (.p (.int .i64 (Nat.cast j)))))),(9,(.v (.one (.p (.str n))))),(10,(.v (.one (.p (.int .i64 (I.add (Nat.cast k) 1))))))],[y2],101,none⟩) .qed)))))))))))) (.need (I.inr Go.IntKind.i64 (I.add (Nat.cast j) 1)) (.need (A ⟨[(7,(.v (.one (.row 0)))),(8,(.v (.one (.p (.int .i64 (I.add (Nat.cast j) 1))))))],[y2],101,none⟩) .qed))) (by kernel_rfl) ?_
    simp only [zq]
    subst hI
    simp only [nrmA,nrmB,nrlB,reduceCtorEq]
    have hk:k<n.length→okc (n.getD k 0):=fun h=>hG.gs.all _ (by rw [show n.getD k 0=n[k] by simp [h]];exact List.getElem_mem h)
    have hgo:=hA (j+1) (by omega) (by omega)
    have hgo2:k<n.length→_:=fun h=>hA2 (k+1) (by omega) (by omega)
    simp only [Int.natCast_add,Int.natCast_one] at hgo hgo2
    generalize n.getD k 0=c at *
    have e1:(c.toNat:Int)=47↔c=47:=uQ c 47 (by decide)
    have e2:(c.toNat:Int)=92↔c=92:=uQ c 92 (by decide)
    have e3:(c.toNat:Int)=9↔c=9:=uQ c 9 (by decide)
    have e4:(c.toNat:Int)=34↔c=34:=uQ c 34 (by decide)
    have e5:(c.toNat:Int)=58↔c=58:=uQ c 58 (by decide)
    (repeat' (first|refine And.intro ?_ ?_|intro _))<;>first|omega|exact True.intro|exact False.elim ‹False›|skip
    all_goals first
      |omega
      |exact hgo
      |exact hgo2 (by omega)
      |exact absurd (e1.1 ‹_›) (hk (by omega)).1
      |exact absurd (e2.1 ‹_›) (hk (by omega)).2.1
      |exact absurd (e3.1 ‹_›) (hk (by omega)).2.2.1
      |exact absurd (e4.1 ‹_›) (hk (by omega)).2.2.2.1
      |exact absurd (e5.1 ‹_›) (hk (by omega)).2.2.2.2.1
  · have hG:GN n:=by
      subst hI
      simp only [nrmA,nrmB,nrlB,reduceCtorEq] at *
      exact hgn _ (by omega) (by first|(intro _;assumption)|(intro e;omega)) id
    have hj2:j<2:=by
      subst hI
      simp only [nrmA,nrmB,nrlB,reduceCtorEq] at *
      omega
    have hle:=hG.le
    clear hnn hgn hf hs hn
    refine zF hI zl mixed [vV,vU,YA,Yz,rC,ru,rE,rD,wW,wV] hX [7,8,9,10] (fun(k:Nat)=>k≤n.length) (fun(k:Nat)=>⟨[(7,.v (.one (.row 0))),(8,.v (.one (.p (.int .i64 j)))),(9,.v (.one (.p (.str n)))),(10,.v (.one (.p (.int .i64 k))))],[.row .str 9 ([N,F])],101,none⟩) (fun(k:Nat)=>n.length - k) 0 (by kernel_rfl) (by kernel_rfl) ?_ ?_
    · exact Nat.zero_le _
    rintro k h2 A2 hA2
    refine zi (let y0:=I.b2i (I.get (α:=UInt8) n 0 (Nat.cast k));let y1:=I.inb (Nat.cast k) (I.len (α:=UInt8) n);let y2:HO:=.row .str 9 ([N,F]:List (Str));.br (I.ilt (Nat.cast k) (I.len (α:=UInt8) n)) (.need y1 (.br (I.ieq y0 47) (.fin (.ret (.v (.one (.p (.bool Bool.false))))) []) (.need y1 (.br (I.ieq y0 92) (.fin (.ret (.v (.one (.p (.bool Bool.false))))) []) (.need y1 (.br (I.ieq y0 9) (.fin (.ret (.v (.one (.p (.bool Bool.false))))) []) (.need y1 (.br (I.ieq y0 34) (.fin (.ret (.v (.one (.p (.bool Bool.false))))) []) (.need y1 (.br (I.ieq y0 58) (.fin (.ret (.v (.one (.p (.bool Bool.false))))) []) (.need (I.inr Go.IntKind.i64 (I.add (Nat.cast k) 1)) (.need (A2 ⟨[(7,(.v (.one (.row 0)))),(8,(.v (.one (.p (.int .i64 (Nat.cast j)))))),(9,(.v (.one (.p (.str n))))),(10,(.v (.one (.p (.int .i64 (I.add (Nat.cast k) 1))))))],[y2],101,none⟩) .qed)))))))))))) (.need (I.inr Go.IntKind.i64 (I.add (Nat.cast j) 1)) (.need (A ⟨[(7,(.v (.one (.row 0)))),(8,(.v (.one (.p (.int .i64 (I.add (Nat.cast j) 1))))))],[y2],101,none⟩) .qed))) (by kernel_rfl) ?_
    simp only [zq]
    subst hI
    simp only [nrmA,nrmB,nrlB,reduceCtorEq]
    have hk:k<n.length→okc (n.getD k 0):=fun h=>hG.gs.all _ (by rw [show n.getD k 0=n[k] by simp [h]];exact List.getElem_mem h)
    have hgo:=hA (j+1) (by omega) (by omega)
    have hgo2:k<n.length→_:=fun h=>hA2 (k+1) (by omega) (by omega)
    simp only [Int.natCast_add,Int.natCast_one] at hgo hgo2
    generalize n.getD k 0=c at *
    have e1:(c.toNat:Int)=47↔c=47:=uQ c 47 (by decide)
    have e2:(c.toNat:Int)=92↔c=92:=uQ c 92 (by decide)
    have e3:(c.toNat:Int)=9↔c=9:=uQ c 9 (by decide)
    have e4:(c.toNat:Int)=34↔c=34:=uQ c 34 (by decide)
    have e5:(c.toNat:Int)=58↔c=58:=uQ c 58 (by decide)
    (repeat' (first|refine And.intro ?_ ?_|intro _))<;>first|omega|exact True.intro|exact False.elim ‹False›|skip
    all_goals first
      |omega
      |exact hgo
      |exact hgo2 (by omega)
      |exact absurd (e1.1 ‹_›) (hk (by omega)).1
      |exact absurd (e2.1 ‹_›) (hk (by omega)).2.1
      |exact absurd (e3.1 ‹_›) (hk (by omega)).2.2.1
      |exact absurd (e4.1 ‹_›) (hk (by omega)).2.2.2.1
      |exact absurd (e5.1 ‹_›) (hk (by omega)).2.2.2.2.1
end Go.Proofs.YtknaogelmckimaaDoor
