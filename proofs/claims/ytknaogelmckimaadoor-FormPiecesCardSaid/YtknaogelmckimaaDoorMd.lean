/- Texts of this proof, one behind the other: LnA FrmC FrmD FldP FrmE EvJ FrmF FrmG FrmP FrmH FrmI SamF ReqN ReqO FrmQ. -/
import Derived.Test.YtknaogelmckimaaDoorMc
set_option linter.all false
namespace Go.Proofs.YtknaogelmckimaaDoor
open Go Go.Sep Go.Ab
set_option maxRecDepth 100000
def zgC:Cfg:= { sl:=[⟨106,0,.byte,some 5⟩]}
theorem zhi:Spc Tryd.prog 45 [] [] (.ret (.v (.one (.ptr 0 0)))) [.pack [.obj 106 [(.row 1),(.p (.bool false)),(.p (.int .i64 0))],.row .byte 5 ([])]]:=by
  refine spcG zl mixed Tryd.func45 (by kernel_rfl) { zgC with keep:=some [0]} [] (by kernel_rfl) ?_
  intro I X hI hX
  refine zi (.fin (.ret (.v (.one (.ptr 0 0)))) [(.pack [(.obj 106 [(.row 1),(.p (.bool Bool.false)),(.p (.int .i64 0))]),(.row .byte 5 ([]:Str))])]) (by kernel_rfl) ?_
  simp only [zu]
  trivial
def YH (I:Alg) (args:List D) (hp:List HO):Option CT:=match args,hp with
  |[],[]=>(fun(_:Unit)=>(some (.one ⟨I.hid (True),(.ret (.v (.one (.ptr 0 0)))),[.pack [.obj 106 [(.row 1),(.p (.bool false)),(.p (.int .i64 0))],.row .byte 5 (I.hid ([]))]]⟩):Option CT)) ()
  |_,_=>none
theorem zah:zA Tryd.prog 45 (YH alg):=by
  intro args hp r h
  unfold YH at h
  split at h
  · cases h;exact fun hn=>zhi
  · cases h
def zaf:Know Tryd.prog:=⟨45,YH,zah⟩
def zae:Know Tryd.prog:=⟨45,fun I=>zB I (YH I),zf zah⟩
theorem zfZ (b:Str) (cr:Bool) (code c:Int):Spc Tryd.prog 61 [.v (.one (.ptr 0 0)),.v (.one (.p (.int .i64 c)))] [.pack [.obj 106 [(.row 1),(.p (.bool cr)),(.p (.int .i64 code))],.row .byte 5 b]] (.ret (.tup [(.one (.p (.str ([])))),(.one (.p (.bool false))),(.one (.p (.int .i64 c)))])) [.pack [.obj 106 [(.row 1),(.p (.bool cr)),(.p (.int .i64 c))],.row .byte 5 b]]:=by
  refine spcG zl mixed Tryd.func61 (by kernel_rfl) { zgC with keep:=some [0,1,4,5,6]} [] (by kernel_rfl) ?_
  intro I X hI hX
  refine zi (.fin (.ret (.tup [(.one (.p (.str ([]:Str)))),(.one (.p (.bool Bool.false))),(.one (.p (.int .i64 c)))])) [(.pack [(.obj 106 [(.row 1),(.p (.bool cr)),(.p (.int .i64 c))]),(.row .byte 5 b)])]) (by kernel_rfl) ?_
  simp only [zu]
  subst hI
  simp only [nrmA,nrmB,nrlB,reduceCtorEq,HO.pack.injEq,HO.obj.injEq]
  try trivial
def qY (I:Alg) (args:List D) (hp:List HO):Option CT:=match args,hp with
  |[.v (.one (.ptr 0 0)),.v (.one (.p (.int .i64 c)))],[.pack [.obj 106 [(.row 1),(.p (.bool cr)),(.p (.int .i64 code))],.row .byte 5 b]]=>(fun(b:Str) (cr:Bool) (code c:Int)=>(some (.one ⟨I.hid (True),(.ret (.tup [(.one (.p (.str (I.hid ([]))))),(.one (.p (.bool false))),(.one (.p (.int .i64 c)))])),[.pack [.obj 106 [(.row 1),(.p (.bool cr)),(.p (.int .i64 c))],.row .byte 5 b]]⟩):Option CT)) b cr code c
  |_,_=>none
theorem UK:zA Tryd.prog 61 (qY alg):=by
  intro args hp r h
  unfold qY at h
  split at h
  · cases h;exact fun hn=>zfZ _ _ _ _
  · cases h
def zcB:Know Tryd.prog:=⟨61,qY,UK⟩
def zcA:Know Tryd.prog:=⟨61,fun I=>zB I (qY I),zf UK⟩
set_option maxHeartbeats 4000000 in
theorem zfY (b:Str) (cr:Bool) (code k:Int) (hneed:0≤k∧k≤255∧b.length≤1000000):Spc Tryd.prog 46 [.v (.one (.ptr 0 0)),.v (.one (.p (.int .u8 k)))] [.pack [.obj 106 [(.row 1),(.p (.bool cr)),(.p (.int .i64 code))],.row .byte 5 b]] (.ret (.tup [(.one (.p (.str ((lnF ⟨b,cr,code⟩ (UInt8.ofNat k.toNat)).2.1)))),(.one (.p (.bool ((lnF ⟨b,cr,code⟩ (UInt8.ofNat k.toNat)).2.2.1)))),(.one (.p (.int .i64 ((lnF ⟨b,cr,code⟩ (UInt8.ofNat k.toNat)).2.2.2))))])) [.pack [.obj 106 [(.row 1),(.p (.bool ((lnF ⟨b,cr,code⟩ (UInt8.ofNat k.toNat)).1.cr))),(.p (.int .i64 ((lnF ⟨b,cr,code⟩ (UInt8.ofNat k.toNat)).1.code)))],.row .byte 5 ((lnF ⟨b,cr,code⟩ (UInt8.ofNat k.toNat)).1.b)]]:=by
  obtain⟨hk0,hk1,hbl⟩:=hneed
  have hkk:((UInt8.ofNat k.toNat).toNat:Int)=k:=by rw [UInt8.toNat_ofNat',Nat.mod_eq_of_lt (by omega)];omega
  generalize hr:lnF ⟨b,cr,code⟩ (UInt8.ofNat k.toNat)=r
  have h10:UInt8.ofNat k.toNat=10↔k=10:=⟨fun h=>by rw [h] at hkk;exact hkk.symm,fun h=>by subst h;rfl⟩
  have h13:UInt8.ofNat k.toNat=13↔k=13:=⟨fun h=>by rw [h] at hkk;exact hkk.symm,fun h=>by subst h;rfl⟩
  unfold lnF zgQ at hr
  rw [hkk] at hr
  simp only [h10,h13] at hr
  obtain⟨⟨rb,rc,rcode⟩,rt,ro,re⟩:=r
  refine spcG zl mixed Tryd.func46 (by kernel_rfl) { zgC with nr:=[8],keep:=some [0,1,4,5,6,7]} [wC,sG,zcB,zcA] (by kernel_rfl) ?_
  intro I X hI hX
  refine zi (let y0:HO:=.pack [(.obj 106 [(.row 1),(.p (.bool cr)),(.p (.int .i64 code))]),(.row .byte 5 (I.app (α:=UInt8) b ([(I.i2b k)]:Str)))];let y1:HO:=.pack [(.obj 106 [(.row 1),(.p (.bool Bool.false)),(.p (.int .i64 code))]),(.row .byte 5 ([]:Str))];let y2:=I.few (I.add (I.len (α:=UInt8) b) (I.len (α:=UInt8) ([(I.i2b k)]:Str))) 140737488355328;let y3:HO:=.pack [(.obj 106 [(.row 1),(.p (.bool Bool.true)),(.p (.int .i64 code))]),(.row .byte 5 b)];let y4:HO:=.pack [(.obj 106 [(.row 1),(.p (.bool cr)),(.p (.int .i64 3))]),(.row .byte 5 b)];let y5:HO:=.pack [(.obj 106 [(.row 1),(.p (.bool cr)),(.p (.int .i64 4))]),(.row .byte 5 b)];let y6:HO:=.pack [(.obj 106 [(.row 1),(.p (.bool cr)),(.p (.int .i64 2))]),(.row .byte 5 b)];let y7:=I.bnot (I.hid (α:=Bool) (Yl k));let y8:=I.ieq (I.len (α:=UInt8) b) 200;.br (I.bnot (I.ieq code 0)) (.fin (.ret (.tup [(.one (.p (.str ([]:Str)))),(.one (.p (.bool Bool.false))),(.one (.p (.int .i64 code)))])) [(.pack [(.obj 106 [(.row 1),(.p (.bool cr)),(.p (.int .i64 code))]),(.row .byte 5 b)])]) (.br cr (.br (I.bnot (I.ieq k 10)) (.need (I.hid (α:=(Prop)) True) (.fin (.ret (.tup [(.one (.p (.str (I.hid (α:=Str) ([]:Str))))),(.one (.p (.bool Bool.false))),(.one (.p (.int .i64 2)))])) [y6])) (.br (I.bnot cr) (.br (I.ieq k 10) (.need (I.hid (α:=(Prop)) True) (.fin (.ret (.tup [(.one (.p (.str (I.hid (α:=Str) ([]:Str))))),(.one (.p (.bool Bool.false))),(.one (.p (.int .i64 2)))])) [y6])) (.br cr (.fin (.ret (.tup [(.one (.p (.str b))),(.one (.p (.bool Bool.true))),(.one (.p (.int .i64 0)))])) [y1]) (.br (I.ieq k 13) (.fin (.ret (.tup [(.one (.p (.str ([]:Str)))),(.one (.p (.bool Bool.false))),(.one (.p (.int .i64 0)))])) [y3]) (.need (I.hid (α:=(Prop)) True) (.br y7 (.need (I.hid (α:=(Prop)) True) (.fin (.ret (.tup [(.one (.p (.str (I.hid (α:=Str) ([]:Str))))),(.one (.p (.bool Bool.false))),(.one (.p (.int .i64 3)))])) [y4])) (.br y8 (.need (I.hid (α:=(Prop)) True) (.fin (.ret (.tup [(.one (.p (.str (I.hid (α:=Str) ([]:Str))))),(.one (.p (.bool Bool.false))),(.one (.p (.int .i64 4)))])) [y5])) (.need (I.inr Go.IntKind.u8 k) (.need y2 (.fin (.ret (.tup [(.one (.p (.str ([]:Str)))),(.one (.p (.bool Bool.false))),(.one (.p (.int .i64 0)))])) [y0]))))))))) (.br cr (.fin (.ret (.tup [(.one (.p (.str b))),(.one (.p (.bool Bool.true))),(.one (.p (.int .i64 0)))])) [y1]) (.br (I.ieq k 13) (.fin (.ret (.tup [(.one (.p (.str ([]:Str)))),(.one (.p (.bool Bool.false))),(.one (.p (.int .i64 0)))])) [y3]) (.need (I.hid (α:=(Prop)) True) (.br y7 (.need (I.hid (α:=(Prop)) True) (.fin (.ret (.tup [(.one (.p (.str (I.hid (α:=Str) ([]:Str))))),(.one (.p (.bool Bool.false))),(.one (.p (.int .i64 3)))])) [y4])) (.br y8 (.need (I.hid (α:=(Prop)) True) (.fin (.ret (.tup [(.one (.p (.str (I.hid (α:=Str) ([]:Str))))),(.one (.p (.bool Bool.false))),(.one (.p (.int .i64 4)))])) [y5])) (.need (I.inr Go.IntKind.u8 k) (.need y2 (.fin (.ret (.tup [(.one (.p (.str ([]:Str)))),(.one (.p (.bool Bool.false))),(.one (.p (.int .i64 0)))])) [y0])))))))))) (.br (I.bnot cr) (.br (I.ieq k 10) (.need (I.hid (α:=(Prop)) True) (.fin (.ret (.tup [(.one (.p (.str (I.hid (α:=Str) ([]:Str))))),(.one (.p (.bool Bool.false))),(.one (.p (.int .i64 2)))])) [y6])) (.br cr (.fin (.ret (.tup [(.one (.p (.str b))),(.one (.p (.bool Bool.true))),(.one (.p (.int .i64 0)))])) [y1]) (.br (I.ieq k 13) (.fin (.ret (.tup [(.one (.p (.str ([]:Str)))),(.one (.p (.bool Bool.false))),(.one (.p (.int .i64 0)))])) [y3]) (.need (I.hid (α:=(Prop)) True) (.br y7 (.need (I.hid (α:=(Prop)) True) (.fin (.ret (.tup [(.one (.p (.str (I.hid (α:=Str) ([]:Str))))),(.one (.p (.bool Bool.false))),(.one (.p (.int .i64 3)))])) [y4])) (.br y8 (.need (I.hid (α:=(Prop)) True) (.fin (.ret (.tup [(.one (.p (.str (I.hid (α:=Str) ([]:Str))))),(.one (.p (.bool Bool.false))),(.one (.p (.int .i64 4)))])) [y5])) (.need (I.inr Go.IntKind.u8 k) (.need y2 (.fin (.ret (.tup [(.one (.p (.str ([]:Str)))),(.one (.p (.bool Bool.false))),(.one (.p (.int .i64 0)))])) [y0]))))))))) (.br cr (.fin (.ret (.tup [(.one (.p (.str b))),(.one (.p (.bool Bool.true))),(.one (.p (.int .i64 0)))])) [y1]) (.br (I.ieq k 13) (.fin (.ret (.tup [(.one (.p (.str ([]:Str)))),(.one (.p (.bool Bool.false))),(.one (.p (.int .i64 0)))])) [y3]) (.need (I.hid (α:=(Prop)) True) (.br y7 (.need (I.hid (α:=(Prop)) True) (.fin (.ret (.tup [(.one (.p (.str (I.hid (α:=Str) ([]:Str))))),(.one (.p (.bool Bool.false))),(.one (.p (.int .i64 3)))])) [y4])) (.br y8 (.need (I.hid (α:=(Prop)) True) (.fin (.ret (.tup [(.one (.p (.str (I.hid (α:=Str) ([]:Str))))),(.one (.p (.bool Bool.false))),(.one (.p (.int .i64 4)))])) [y5])) (.need (I.inr Go.IntKind.u8 k) (.need y2 (.fin (.ret (.tup [(.one (.p (.str ([]:Str)))),(.one (.p (.bool Bool.false))),(.one (.p (.int .i64 0)))])) [y0]))))))))))) (by kernel_rfl) ?_
  simp only [zu]
  subst hI
  simp only [nrmA,nrmB,nrlB,reduceCtorEq,HO.pack.injEq,HO.obj.injEq]
  generalize UInt8.ofNat k.toNat=c at *
  cases cr
  all_goals simp only [Bool.false_eq_true,if_false,if_true] at hr
  all_goals(repeat' (first|refine And.intro ?_ ?_|intro _))<;>first|omega|exact True.intro|exact False.elim ‹False›|skip
  all_goals first
    |omega
    |(exfalso;simp at *;done)
    |(((repeat(first|rewrite [if_pos (by first|omega|assumption|(simp only [*,or_self,or_true,true_or,or_false,false_or,not_true_eq_false,not_false_eq_true,Bool.false_eq_true,Bool.true_eq_false,and_self,and_true,true_and];done)|(simp only [*];omega)|(simp [*];done)|(simp [*];omega))] at hr|rewrite [if_neg (by first|omega|assumption|(simp only [*,or_self,or_true,true_or,or_false,false_or,not_true_eq_false,not_false_eq_true,Bool.false_eq_true,Bool.true_eq_false,and_self,and_true,true_and];done)|(simp only [*];omega)|(simp [*];done)|(simp [*];omega))] at hr)));cases hr;first|rfl|done|with_reducible assumption|exact⟨rfl,rfl,rfl⟩|(simp;done)|(simp;omega))
def qX (I:Alg) (args:List D) (hp:List HO):Option CT:=match args,hp with
  |[.v (.one (.ptr 0 0)),.v (.one (.p (.int .u8 k)))],[.pack [.obj 106 [(.row 1),(.p (.bool cr)),(.p (.int .i64 code))],.row .byte 5 b]]=>(fun(b:Str) (cr:Bool) (code k:Int)=>(some (.one ⟨I.hid (0≤k∧k≤255∧b.length≤1000000),(.ret (.tup [(.one (.p (.str (I.hid ((lnF ⟨b,cr,code⟩ (UInt8.ofNat k.toNat)).2.1))))),(.one (.p (.bool (I.hid ((lnF ⟨b,cr,code⟩ (UInt8.ofNat k.toNat)).2.2.1))))),(.one (.p (.int .i64 (I.hid ((lnF ⟨b,cr,code⟩ (UInt8.ofNat k.toNat)).2.2.2)))))])),[.pack [.obj 106 [(.row 1),(.p (.bool (I.hid ((lnF ⟨b,cr,code⟩ (UInt8.ofNat k.toNat)).1.cr)))),(.p (.int .i64 (I.hid ((lnF ⟨b,cr,code⟩ (UInt8.ofNat k.toNat)).1.code))))],.row .byte 5 (I.hid ((lnF ⟨b,cr,code⟩ (UInt8.ofNat k.toNat)).1.b))]]⟩):Option CT)) b cr code k
  |_,_=>none
theorem UJ:zA Tryd.prog 46 (qX alg):=by
  intro args hp r h
  unfold qX at h
  split at h
  · cases h;exact fun hn=>zfY _ _ _ _ hn
  · cases h
def UI:Know Tryd.prog:=⟨46,qX,UJ⟩
def UH:Know Tryd.prog:=⟨46,fun I=>zB I (qX I),zf UJ⟩
end Go.Proofs.YtknaogelmckimaaDoor
namespace Go.Proofs.YtknaogelmckimaaDoor
open Go Go.Sep Go.Ab
set_option maxRecDepth 100000
def cfgF:Cfg:= { sl:=[⟨106,0,.byte,some 5⟩,⟨84,0,.byte,some 5⟩,⟨84,1,.int,some 3⟩,⟨55,3,.fld,some 67⟩,⟨55,7,.evt,some 63⟩]}
def zO (f:Fm):Prop:=f.out.length≤10000000
def fm9 (f:Fm):Prop:=f.out.length≤9000000
theorem u8k {k:Int} (h0:0≤k) (h1:k≤255) (n:Nat) (hn:n<256):(UInt8.ofNat k.toNat=UInt8.ofNat n)=(k=n):=by
  rw [← UInt8.toNat_inj,UInt8.toNat_ofNat',UInt8.toNat_ofNat',Nat.mod_eq_of_lt hn,Nat.mod_eq_of_lt (by omega)]
  exact propext ⟨fun h=>by omega,fun h=>by omega⟩
theorem zgf (m:Str) (hd:Int) (bs:List Int) (p:Int) (fs:List Fld) (pa sk co:Int) (out:List Evt) (k:Int) (ea eb:Str) (ei:Int) (ef:List Fld) (en:Int) (ebs ex ey ez et:Str) (ec:Int) (hneed:zO ⟨m,hd,bs,p,none,fs,pa,sk,co,out⟩):Spc Tryd.prog 60 [.v (.one (.ptr 0 0)),.v (.agg [(.p (.int .i64 k)),(.p (.str ea)),(.p (.str eb)),(.p (.int .i64 ei)),(.p (.list .fld ef)),(.p (.int .i64 en)),(.p (.list .byte ebs)),(.p (.str ex)),(.p (.str ey)),(.p (.str ez)),(.p (.nl et)),(.p (.int .i64 ec))])] [.abs (.fm ⟨m,hd,bs,p,none,fs,pa,sk,co,out⟩)] (.ret (.tup [])) [.abs (.fm ⟨m,hd,bs,p,none,fs,pa,sk,co,(out++[⟨k,⟨ea,eb,ei,ef,en⟩,ebs,⟨ex,ey,ez,et⟩,ec⟩])⟩)]:=by
  unfold zO at hneed
  simp only at hneed
  refine spcG zl mixed Tryd.func60 (by kernel_rfl) { cfgF with keep:=some [0,1,3]} [] (by kernel_rfl) ?_
  intro I X hI hX
  refine zi (let y0:=I.few (I.add (I.len (α:=Go.Ab.Evt) out) (I.len (α:=Go.Ab.Evt) ([(Go.Ab.Evt.mk k (Hd.mk ea eb ei ef en) ebs (Go.Ab.Prt.mk ex ey ez et) ec)]:List Go.Ab.Evt))) 100000000;.both (.need y0 (.fin (.ret (.tup [])) [(.abs (.fm (Go.Ab.Fm.mk m hd bs p (Option.none) fs pa sk co (I.app (α:=Go.Ab.Evt) out ([(Go.Ab.Evt.mk k (Hd.mk ea eb ei ef en) ebs (Go.Ab.Prt.mk ex ey ez et) ec)]:List Go.Ab.Evt)))))])) (.need y0 (.fin (.ret (.tup [])) [(.abs (.fm (Go.Ab.Fm.mk m hd bs p (Option.none) fs pa sk co (I.app (α:=Go.Ab.Evt) out ([(Go.Ab.Evt.mk k (Hd.mk ea eb ei ef en) ebs (Go.Ab.Prt.mk ex ey ez et) ec)]:List Go.Ab.Evt)))))]))) (by kernel_rfl) ?_
  simp only [zu]
  subst hI
  simp only [nrmA,nrmB,nrlB,reduceCtorEq,HO.abs.injEq,Gh.fm.injEq,Fm.mk.injEq]
  (repeat' (first|refine And.intro ?_ ?_|intro _))<;>first|omega|exact True.intro|exact False.elim ‹False›|skip
  all_goals first
    |omega
    |rfl
    |with_reducible assumption
    |(simp only [List.length_cons,List.length_nil];omega)
    |(unfold zO;simp only;omega)
    |(simp;done)
def Ze (I:Alg) (args:List D) (hp:List HO):Option CT:=match args,hp with
  |[.v (.one (.ptr 0 0)),.v (.agg [(.p (.int .i64 k)),(.p (.str ea)),(.p (.str eb)),(.p (.int .i64 ei)),(.p (.list .fld ef)),(.p (.int .i64 en)),(.p (.list .byte ebs)),(.p (.str ex)),(.p (.str ey)),(.p (.str ez)),(.p (.nl et)),(.p (.int .i64 ec))])],[.abs (.fm ⟨m,hd,bs,p,none,fs,pa,sk,co,out⟩)]=>(fun(m:Str) (hd:Int) (bs:List Int) (p:Int) (fs:List Fld) (pa sk co:Int) (out:List Evt) (k:Int) (ea eb:Str) (ei:Int) (ef:List Fld) (en:Int) (ebs ex ey ez et:Str) (ec:Int)=>(some (.one ⟨I.hid (zO ⟨m,hd,bs,p,none,fs,pa,sk,co,out⟩),(.ret (.tup [])),[.abs (.fm ⟨m,hd,bs,p,none,fs,pa,sk,co,(I.hid (out++[⟨k,⟨ea,eb,ei,ef,en⟩,ebs,⟨ex,ey,ez,et⟩,ec⟩]))⟩)]⟩):Option CT)) m hd bs p fs pa sk co out k ea eb ei ef en ebs ex ey ez et ec
  |_,_=>none
theorem Tj:zA Tryd.prog 60 (Ze alg):=by
  intro args hp r h
  unfold Ze at h
  split at h
  · cases h;exact fun hn=>zgf _ _ _ _ _ _ _ _ _ _ _ _ _ _ _ _ _ _ _ _ _ hn
  · cases h
def xq:Know Tryd.prog:=⟨60,Ze,Tj⟩
def xk:Know Tryd.prog:=⟨60,fun I=>zB I (Ze I),zf Tj⟩
theorem zge (m:Str) (hd:Int) (bs:List Int) (p:Int) (ln:Ln) (fs:List Fld) (pa sk co:Int) (out:List Evt) (k:Int) (ea eb:Str) (ei:Int) (ef:List Fld) (en:Int) (ebs ex ey ez et:Str) (ec:Int) (hneed:zO ⟨m,hd,bs,p,some ln,fs,pa,sk,co,out⟩):Spc Tryd.prog 60 [.v (.one (.ptr 0 0)),.v (.agg [(.p (.int .i64 k)),(.p (.str ea)),(.p (.str eb)),(.p (.int .i64 ei)),(.p (.list .fld ef)),(.p (.int .i64 en)),(.p (.list .byte ebs)),(.p (.str ex)),(.p (.str ey)),(.p (.str ez)),(.p (.nl et)),(.p (.int .i64 ec))])] [.abs (.fm ⟨m,hd,bs,p,some ln,fs,pa,sk,co,out⟩)] (.ret (.tup [])) [.abs (.fm ⟨m,hd,bs,p,some ln,fs,pa,sk,co,(out++[⟨k,⟨ea,eb,ei,ef,en⟩,ebs,⟨ex,ey,ez,et⟩,ec⟩])⟩)]:=by
  unfold zO at hneed
  simp only at hneed
  refine spcG zl mixed Tryd.func60 (by kernel_rfl) { cfgF with keep:=some [0,1,3]} [xq,xk] (by kernel_rfl) ?_
  intro I X hI hX
  refine zi (let y0:=I.few (I.add (I.len (α:=Go.Ab.Evt) out) (I.len (α:=Go.Ab.Evt) ([(Go.Ab.Evt.mk k (Hd.mk ea eb ei ef en) ebs (Go.Ab.Prt.mk ex ey ez et) ec)]:List Go.Ab.Evt))) 100000000;.both (.need y0 (.fin (.ret (.tup [])) [(.abs (.fm (Go.Ab.Fm.mk m hd bs p (Option.some (Go.Ab.Ln.mk (Go.Ab.Ln.b ln) (Go.Ab.Ln.cr ln) (Go.Ab.Ln.code ln))) fs pa sk co (I.app (α:=Go.Ab.Evt) out ([(Go.Ab.Evt.mk k (Hd.mk ea eb ei ef en) ebs (Go.Ab.Prt.mk ex ey ez et) ec)]:List Go.Ab.Evt)))))])) (.need y0 (.fin (.ret (.tup [])) [(.abs (.fm (Go.Ab.Fm.mk m hd bs p (Option.some (Go.Ab.Ln.mk (Go.Ab.Ln.b ln) (Go.Ab.Ln.cr ln) (Go.Ab.Ln.code ln))) fs pa sk co (I.app (α:=Go.Ab.Evt) out ([(Go.Ab.Evt.mk k (Hd.mk ea eb ei ef en) ebs (Go.Ab.Prt.mk ex ey ez et) ec)]:List Go.Ab.Evt)))))]))) (by kernel_rfl) ?_
  simp only [zu]
  subst hI
  simp only [nrmA,nrmB,nrlB,reduceCtorEq,HO.abs.injEq,Gh.fm.injEq,Fm.mk.injEq]
  (repeat' (first|refine And.intro ?_ ?_|intro _))<;>first|omega|exact True.intro|exact False.elim ‹False›|skip
  all_goals first
    |omega
    |rfl
    |with_reducible assumption
    |(simp only [List.length_cons,List.length_nil];omega)
    |(unfold zO;simp only;omega)
    |(simp;done)
def Zd (I:Alg) (args:List D) (hp:List HO):Option CT:=match args,hp with
  |[.v (.one (.ptr 0 0)),.v (.agg [(.p (.int .i64 k)),(.p (.str ea)),(.p (.str eb)),(.p (.int .i64 ei)),(.p (.list .fld ef)),(.p (.int .i64 en)),(.p (.list .byte ebs)),(.p (.str ex)),(.p (.str ey)),(.p (.str ez)),(.p (.nl et)),(.p (.int .i64 ec))])],[.abs (.fm ⟨m,hd,bs,p,some ln,fs,pa,sk,co,out⟩)]=>(fun(m:Str) (hd:Int) (bs:List Int) (p:Int) (ln:Ln) (fs:List Fld) (pa sk co:Int) (out:List Evt) (k:Int) (ea eb:Str) (ei:Int) (ef:List Fld) (en:Int) (ebs ex ey ez et:Str) (ec:Int)=>(some (.one ⟨I.hid (zO ⟨m,hd,bs,p,some ln,fs,pa,sk,co,out⟩),(.ret (.tup [])),[.abs (.fm ⟨m,hd,bs,p,some ln,fs,pa,sk,co,(I.hid (out++[⟨k,⟨ea,eb,ei,ef,en⟩,ebs,⟨ex,ey,ez,et⟩,ec⟩]))⟩)]⟩):Option CT)) m hd bs p ln fs pa sk co out k ea eb ei ef en ebs ex ey ez et ec
  |_,_=>none
theorem Ti:zA Tryd.prog 60 (Zd alg):=by
  intro args hp r h
  unfold Zd at h
  split at h
  · cases h;exact fun hn=>zge _ _ _ _ _ _ _ _ _ _ _ _ _ _ _ _ _ _ _ _ _ _ hn
  · cases h
def xO:Know Tryd.prog:=⟨60,Zd,Ti⟩
def xN:Know Tryd.prog:=⟨60,fun I=>zB I (Zd I),zf Ti⟩
theorem zav (m:Str) (hd:Int) (bs:List Int) (p:Int) (fs:List Fld) (pa sk co:Int) (out:List Evt) (c:Int) (hneed:zO ⟨m,hd,bs,p,none,fs,pa,sk,co,out⟩):Spc Tryd.prog 44 [.v (.one (.ptr 0 0)),.v (.one (.p (.int .i64 c)))] [.abs (.fm ⟨m,hd,bs,p,none,fs,pa,sk,co,out⟩)] (.ret (.tup [])) [.abs (.fm ((zC ⟨m,hd,bs,p,none,fs,pa,sk,co,out⟩ c)))]:=by
  unfold zO at hneed
  simp only at hneed
  refine spcG zl mixed Tryd.func44 (by kernel_rfl) { cfgF with keep:=some [0,1]} [xq,xk,xO,xN] (by kernel_rfl) ?_
  intro I X hI hX
  refine zi (.need (I.hid (α:=(Prop)) (zO (Go.Ab.Fm.mk m hd bs (8:Int) (Option.none) fs pa sk c out))) (.fin (.ret (.tup [])) [(.abs (.fm (Go.Ab.Fm.mk m hd bs (8:Int) (Option.none) fs pa sk c (I.hid (α:=(List Go.Ab.Evt)) (HAppend.hAppend out ([(Go.Ab.Evt.mk (4:Int) (Hd.mk ([]:Str) ([]:Str) (0:Int) ([]:List Fld) (0:Int)) ([]:Str) (Go.Ab.Prt.mk ([]:Str) ([]:Str) ([]:Str) ([]:Str)) c)]:List Go.Ab.Evt))))))])) (by kernel_rfl) ?_
  simp only [zu]
  subst hI
  simp only [nrmA,nrmB,nrlB,reduceCtorEq,HO.abs.injEq,Gh.fm.injEq,Fm.mk.injEq]
  (repeat' (first|refine And.intro ?_ ?_|intro _))<;>first|omega|exact True.intro|exact False.elim ‹False›|skip
  all_goals first
    |omega
    |rfl
    |with_reducible assumption
    |(simp only [List.length_cons,List.length_nil];omega)
    |(unfold zO;simp only;omega)
    |(simp;done)
def rG (I:Alg) (args:List D) (hp:List HO):Option CT:=match args,hp with
  |[.v (.one (.ptr 0 0)),.v (.one (.p (.int .i64 c)))],[.abs (.fm ⟨m,hd,bs,p,none,fs,pa,sk,co,out⟩)]=>(fun(m:Str) (hd:Int) (bs:List Int) (p:Int) (fs:List Fld) (pa sk co:Int) (out:List Evt) (c:Int)=>(some (.one ⟨I.hid (zO ⟨m,hd,bs,p,none,fs,pa,sk,co,out⟩),(.ret (.tup [])),[.abs (.fm (I.hid ((zC ⟨m,hd,bs,p,none,fs,pa,sk,co,out⟩ c))))]⟩):Option CT)) m hd bs p fs pa sk co out c
  |_,_=>none
theorem WS:zA Tryd.prog 44 (rG alg):=by
  intro args hp r h
  unfold rG at h
  split at h
  · cases h;exact fun hn=>zav _ _ _ _ _ _ _ _ _ _ hn
  · cases h
def zbH:Know Tryd.prog:=⟨44,rG,WS⟩
def zbG:Know Tryd.prog:=⟨44,fun I=>zB I (rG I),zf WS⟩
theorem zez (m:Str) (hd:Int) (bs:List Int) (p:Int) (ln:Ln) (fs:List Fld) (pa sk co:Int) (out:List Evt) (c:Int) (hneed:zO ⟨m,hd,bs,p,some ln,fs,pa,sk,co,out⟩):Spc Tryd.prog 44 [.v (.one (.ptr 0 0)),.v (.one (.p (.int .i64 c)))] [.abs (.fm ⟨m,hd,bs,p,some ln,fs,pa,sk,co,out⟩)] (.ret (.tup [])) [.abs (.fm ((zC ⟨m,hd,bs,p,some ln,fs,pa,sk,co,out⟩ c)))]:=by
  unfold zO at hneed
  simp only at hneed
  refine spcG zl mixed Tryd.func44 (by kernel_rfl) { cfgF with keep:=some [0,1]} [xq,xk,xO,xN,zbH,zbG] (by kernel_rfl) ?_
  intro I X hI hX
  refine zi (.need (I.hid (α:=(Prop)) (zO (Go.Ab.Fm.mk m hd bs (8:Int) (Option.some (Go.Ab.Ln.mk (Go.Ab.Ln.b ln) (Go.Ab.Ln.cr ln) (Go.Ab.Ln.code ln))) fs pa sk c out))) (.fin (.ret (.tup [])) [(.abs (.fm (Go.Ab.Fm.mk m hd bs (8:Int) (Option.some (Go.Ab.Ln.mk (Go.Ab.Ln.b ln) (Go.Ab.Ln.cr ln) (Go.Ab.Ln.code ln))) fs pa sk c (I.hid (α:=(List Go.Ab.Evt)) (HAppend.hAppend out ([(Go.Ab.Evt.mk (4:Int) (Hd.mk ([]:Str) ([]:Str) (0:Int) ([]:List Fld) (0:Int)) ([]:Str) (Go.Ab.Prt.mk ([]:Str) ([]:Str) ([]:Str) ([]:Str)) c)]:List Go.Ab.Evt))))))])) (by kernel_rfl) ?_
  simp only [zu]
  subst hI
  simp only [nrmA,nrmB,nrlB,reduceCtorEq,HO.abs.injEq,Gh.fm.injEq,Fm.mk.injEq]
  (repeat' (first|refine And.intro ?_ ?_|intro _))<;>first|omega|exact True.intro|exact False.elim ‹False›|skip
  all_goals first
    |omega
    |rfl
    |with_reducible assumption
    |(simp only [List.length_cons,List.length_nil];omega)
    |(unfold zO;simp only;omega)
    |(simp;done)
theorem zgl (f:Fm) (c:Int) (hneed:zO f):Spc Tryd.prog 44 [.v (.one (.ptr 0 0)),.v (.one (.p (.int .i64 c)))] [.abs (.fm f)] (.ret (.tup [])) [.abs (.fm ((zC f c)))]:=by
  obtain⟨m,hd,bs,p,ln,fs,pa,sk,co,out⟩:=f
  cases ln with
  |none=>exact zav m hd bs p fs pa sk co out c hneed
  |some ln=>exact zez m hd bs p ln fs pa sk co out c hneed
def Zl (I:Alg) (args:List D) (hp:List HO):Option CT:=match args,hp with
  |[.v (.one (.ptr 0 0)),.v (.one (.p (.int .i64 c)))],[.abs (.fm f)]=>(fun(f:Fm) (c:Int)=>(some (.one ⟨I.hid (zO f),(.ret (.tup [])),[.abs (.fm (I.hid ((zC f c))))]⟩):Option CT)) f c
  |_,_=>none
theorem TI:zA Tryd.prog 44 (Zl alg):=by
  intro args hp r h
  unfold Zl at h
  split at h
  · cases h;exact fun hn=>zgl _ _ hn
  · cases h
def xQ:Know Tryd.prog:=⟨44,Zl,TI⟩
def xP:Know Tryd.prog:=⟨44,fun I=>zB I (Zl I),zf TI⟩
theorem WX (m:Str) (hd:Int) (bs:List Int) (p:Int) (fs:List Fld) (pa sk co:Int) (out:List Evt) (k:Int) (hneed:zO ⟨m,hd,bs,p,none,fs,pa,sk,co,out⟩∧0≤k∧k≤255):Spc Tryd.prog 43 [.v (.one (.ptr 0 0)),.v (.one (.p (.int .u8 k)))] [.abs (.fm ⟨m,hd,bs,p,none,fs,pa,sk,co,out⟩)] (.ret (.tup [])) [.abs (.fm ((zS ⟨m,hd,bs,p,none,fs,pa,sk,co,out⟩ (UInt8.ofNat k.toNat))))]:=by
  obtain⟨hneed,h0,h1⟩:=hneed
  have hc:=fun n=>u8k h0 h1 n
  have h45:(UInt8.ofNat k.toNat=45)=(k=45):=hc 45 (by decide)
  have h32:(UInt8.ofNat k.toNat=32)=(k=32):=hc 32 (by decide)
  have h9:(UInt8.ofNat k.toNat=9)=(k=9):=hc 9 (by decide)
  have h13:(UInt8.ofNat k.toNat=13)=(k=13):=hc 13 (by decide)
  clear hc
  generalize UInt8.ofNat k.toNat=c at *
  unfold zO at hneed
  simp only at hneed
  generalize hr:zS ⟨m,hd,bs,p,none,fs,pa,sk,co,out⟩ c=r
  unfold zS at hr
  simp only [h45,h32,h9,h13] at hr
  refine spcG zl mixed Tryd.func43 (by kernel_rfl) { cfgF with keep:=some [0,1,4]} [xq,xk,xO,xN,xQ,xP] (by kernel_rfl) ?_
  intro I X hI hX
  refine zi (let y0:=I.hid (α:=Go.Ab.Fm) (zC (Go.Ab.Fm.mk m hd bs p (Option.none) fs pa sk co out) (5:Int));let y1:=I.hid (α:=(Prop)) (zO (Go.Ab.Fm.mk m hd bs p (Option.none) fs pa sk co out));let y2:=I.hid (α:=(List Go.Ab.Evt)) (HAppend.hAppend out ([(Go.Ab.Evt.mk (3:Int) (Hd.mk ([]:Str) ([]:Str) (0:Int) ([]:List Fld) (0:Int)) ([]:Str) (Go.Ab.Prt.mk ([]:Str) ([]:Str) ([]:Str) ([]:Str)) (0:Int))]:List Go.Ab.Evt));let y3:=I.hid (α:=(Prop)) (zO (Go.Ab.Fm.mk m hd bs (7:Int) (Option.none) fs pa sk co out));.br (I.ieq k 32) (.br (I.ieq p 1) (.br (I.ieq k 45) (.fin (.ret (.tup [])) [(.abs (.fm (Go.Ab.Fm.mk m hd bs (2:Int) (Option.none) fs pa sk co out)))]) (.br (I.ieq p 2) (.br (I.ieq k 45) (.need y3 (.fin (.ret (.tup [])) [(.abs (.fm (Go.Ab.Fm.mk m hd bs (7:Int) (Option.none) fs pa sk co y2)))])) (.br (I.bnot (I.ieq p 2)) (.fin (.ret (.tup [])) [(.abs (.fm (Go.Ab.Fm.mk m hd bs (3:Int) (Option.none) fs pa sk co out)))]) (.br (I.bnot (I.ieq p 2)) (.br (I.ieq k 13) (.fin (.ret (.tup [])) [(.abs (.fm (Go.Ab.Fm.mk m hd bs (4:Int) (Option.none) fs pa sk co out)))]) (.need y1 (.fin (.ret (.tup [])) [(.abs (.fm y0))]))) (.need y1 (.fin (.ret (.tup [])) [(.abs (.fm y0))]))))) (.br (I.bnot (I.ieq p 2)) (.fin (.ret (.tup [])) [(.abs (.fm (Go.Ab.Fm.mk m hd bs (3:Int) (Option.none) fs pa sk co out)))]) (.br (I.bnot (I.ieq p 2)) (.br (I.ieq k 13) (.fin (.ret (.tup [])) [(.abs (.fm (Go.Ab.Fm.mk m hd bs (4:Int) (Option.none) fs pa sk co out)))]) (.need y1 (.fin (.ret (.tup [])) [(.abs (.fm y0))]))) (.need y1 (.fin (.ret (.tup [])) [(.abs (.fm y0))])))))) (.br (I.ieq p 2) (.br (I.ieq k 45) (.need y3 (.fin (.ret (.tup [])) [(.abs (.fm (Go.Ab.Fm.mk m hd bs (7:Int) (Option.none) fs pa sk co y2)))])) (.br (I.bnot (I.ieq p 2)) (.fin (.ret (.tup [])) [(.abs (.fm (Go.Ab.Fm.mk m hd bs (3:Int) (Option.none) fs pa sk co out)))]) (.br (I.bnot (I.ieq p 2)) (.br (I.ieq k 13) (.fin (.ret (.tup [])) [(.abs (.fm (Go.Ab.Fm.mk m hd bs (4:Int) (Option.none) fs pa sk co out)))]) (.need y1 (.fin (.ret (.tup [])) [(.abs (.fm y0))]))) (.need y1 (.fin (.ret (.tup [])) [(.abs (.fm y0))]))))) (.br (I.bnot (I.ieq p 2)) (.fin (.ret (.tup [])) [(.abs (.fm (Go.Ab.Fm.mk m hd bs (3:Int) (Option.none) fs pa sk co out)))]) (.br (I.bnot (I.ieq p 2)) (.br (I.ieq k 13) (.fin (.ret (.tup [])) [(.abs (.fm (Go.Ab.Fm.mk m hd bs (4:Int) (Option.none) fs pa sk co out)))]) (.need y1 (.fin (.ret (.tup [])) [(.abs (.fm y0))]))) (.need y1 (.fin (.ret (.tup [])) [(.abs (.fm y0))])))))) (.br (I.ieq p 1) (.br (I.ieq k 45) (.fin (.ret (.tup [])) [(.abs (.fm (Go.Ab.Fm.mk m hd bs (2:Int) (Option.none) fs pa sk co out)))]) (.br (I.ieq p 2) (.br (I.ieq k 45) (.need y3 (.fin (.ret (.tup [])) [(.abs (.fm (Go.Ab.Fm.mk m hd bs (7:Int) (Option.none) fs pa sk co y2)))])) (.br (I.bnot (I.ieq p 2)) (.br (I.ieq k 9) (.fin (.ret (.tup [])) [(.abs (.fm (Go.Ab.Fm.mk m hd bs (3:Int) (Option.none) fs pa sk co out)))]) (.br (I.bnot (I.ieq p 2)) (.br (I.ieq k 13) (.fin (.ret (.tup [])) [(.abs (.fm (Go.Ab.Fm.mk m hd bs (4:Int) (Option.none) fs pa sk co out)))]) (.need y1 (.fin (.ret (.tup [])) [(.abs (.fm y0))]))) (.need y1 (.fin (.ret (.tup [])) [(.abs (.fm y0))])))) (.br (I.bnot (I.ieq p 2)) (.br (I.ieq k 13) (.fin (.ret (.tup [])) [(.abs (.fm (Go.Ab.Fm.mk m hd bs (4:Int) (Option.none) fs pa sk co out)))]) (.need y1 (.fin (.ret (.tup [])) [(.abs (.fm y0))]))) (.need y1 (.fin (.ret (.tup [])) [(.abs (.fm y0))]))))) (.br (I.bnot (I.ieq p 2)) (.br (I.ieq k 9) (.fin (.ret (.tup [])) [(.abs (.fm (Go.Ab.Fm.mk m hd bs (3:Int) (Option.none) fs pa sk co out)))]) (.br (I.bnot (I.ieq p 2)) (.br (I.ieq k 13) (.fin (.ret (.tup [])) [(.abs (.fm (Go.Ab.Fm.mk m hd bs (4:Int) (Option.none) fs pa sk co out)))]) (.need y1 (.fin (.ret (.tup [])) [(.abs (.fm y0))]))) (.need y1 (.fin (.ret (.tup [])) [(.abs (.fm y0))])))) (.br (I.bnot (I.ieq p 2)) (.br (I.ieq k 13) (.fin (.ret (.tup [])) [(.abs (.fm (Go.Ab.Fm.mk m hd bs (4:Int) (Option.none) fs pa sk co out)))]) (.need y1 (.fin (.ret (.tup [])) [(.abs (.fm y0))]))) (.need y1 (.fin (.ret (.tup [])) [(.abs (.fm y0))])))))) (.br (I.ieq p 2) (.br (I.ieq k 45) (.need y3 (.fin (.ret (.tup [])) [(.abs (.fm (Go.Ab.Fm.mk m hd bs (7:Int) (Option.none) fs pa sk co y2)))])) (.br (I.bnot (I.ieq p 2)) (.br (I.ieq k 9) (.fin (.ret (.tup [])) [(.abs (.fm (Go.Ab.Fm.mk m hd bs (3:Int) (Option.none) fs pa sk co out)))]) (.br (I.bnot (I.ieq p 2)) (.br (I.ieq k 13) (.fin (.ret (.tup [])) [(.abs (.fm (Go.Ab.Fm.mk m hd bs (4:Int) (Option.none) fs pa sk co out)))]) (.need y1 (.fin (.ret (.tup [])) [(.abs (.fm y0))]))) (.need y1 (.fin (.ret (.tup [])) [(.abs (.fm y0))])))) (.br (I.bnot (I.ieq p 2)) (.br (I.ieq k 13) (.fin (.ret (.tup [])) [(.abs (.fm (Go.Ab.Fm.mk m hd bs (4:Int) (Option.none) fs pa sk co out)))]) (.need y1 (.fin (.ret (.tup [])) [(.abs (.fm y0))]))) (.need y1 (.fin (.ret (.tup [])) [(.abs (.fm y0))]))))) (.br (I.bnot (I.ieq p 2)) (.br (I.ieq k 9) (.fin (.ret (.tup [])) [(.abs (.fm (Go.Ab.Fm.mk m hd bs (3:Int) (Option.none) fs pa sk co out)))]) (.br (I.bnot (I.ieq p 2)) (.br (I.ieq k 13) (.fin (.ret (.tup [])) [(.abs (.fm (Go.Ab.Fm.mk m hd bs (4:Int) (Option.none) fs pa sk co out)))]) (.need y1 (.fin (.ret (.tup [])) [(.abs (.fm y0))]))) (.need y1 (.fin (.ret (.tup [])) [(.abs (.fm y0))])))) (.br (I.bnot (I.ieq p 2)) (.br (I.ieq k 13) (.fin (.ret (.tup [])) [(.abs (.fm (Go.Ab.Fm.mk m hd bs (4:Int) (Option.none) fs pa sk co out)))]) (.need y1 (.fin (.ret (.tup [])) [(.abs (.fm y0))]))) (.need y1 (.fin (.ret (.tup [])) [(.abs (.fm y0))]))))))) (by kernel_rfl) ?_
  simp only [zu]
  subst hI
  simp only [nrmA,nrmB,nrlB,reduceCtorEq,HO.abs.injEq,Gh.fm.injEq]
  (repeat' (first|refine And.intro ?_ ?_|intro _))<;>first|omega|exact True.intro|exact False.elim ‹False›|skip
  all_goals first
    |omega
    |(unfold zO;simp only;omega)
    |(subst hr;simp [*,zC,evE,hd0,prt0];done)
def vF (I:Alg) (args:List D) (hp:List HO):Option CT:=match args,hp with
  |[.v (.one (.ptr 0 0)),.v (.one (.p (.int .u8 k)))],[.abs (.fm ⟨m,hd,bs,p,none,fs,pa,sk,co,out⟩)]=>(fun(m:Str) (hd:Int) (bs:List Int) (p:Int) (fs:List Fld) (pa sk co:Int) (out:List Evt) (k:Int)=>(some (.one ⟨I.hid (zO ⟨m,hd,bs,p,none,fs,pa,sk,co,out⟩∧0≤k∧k≤255),(.ret (.tup [])),[.abs (.fm (I.hid ((zS ⟨m,hd,bs,p,none,fs,pa,sk,co,out⟩ (UInt8.ofNat k.toNat)))))]⟩):Option CT)) m hd bs p fs pa sk co out k
  |_,_=>none
theorem Yh:zA Tryd.prog 43 (vF alg):=by
  intro args hp r h
  unfold vF at h
  split at h
  · cases h;exact fun hn=>WX _ _ _ _ _ _ _ _ _ _ hn
  · cases h
def TL:Know Tryd.prog:=⟨43,vF,Yh⟩
def TK:Know Tryd.prog:=⟨43,fun I=>zB I (vF I),zf Yh⟩
theorem zbI (m:Str) (hd:Int) (bs:List Int) (p:Int) (ln:Ln) (fs:List Fld) (pa sk co:Int) (out:List Evt) (k:Int) (hneed:zO ⟨m,hd,bs,p,some ln,fs,pa,sk,co,out⟩∧0≤k∧k≤255):Spc Tryd.prog 43 [.v (.one (.ptr 0 0)),.v (.one (.p (.int .u8 k)))] [.abs (.fm ⟨m,hd,bs,p,some ln,fs,pa,sk,co,out⟩)] (.ret (.tup [])) [.abs (.fm ((zS ⟨m,hd,bs,p,some ln,fs,pa,sk,co,out⟩ (UInt8.ofNat k.toNat))))]:=by
  obtain⟨hneed,h0,h1⟩:=hneed
  have hc:=fun n=>u8k h0 h1 n
  have h45:(UInt8.ofNat k.toNat=45)=(k=45):=hc 45 (by decide)
  have h32:(UInt8.ofNat k.toNat=32)=(k=32):=hc 32 (by decide)
  have h9:(UInt8.ofNat k.toNat=9)=(k=9):=hc 9 (by decide)
  have h13:(UInt8.ofNat k.toNat=13)=(k=13):=hc 13 (by decide)
  clear hc
  generalize UInt8.ofNat k.toNat=c at *
  unfold zO at hneed
  simp only at hneed
  generalize hr:zS ⟨m,hd,bs,p,some ln,fs,pa,sk,co,out⟩ c=r
  unfold zS at hr
  simp only [h45,h32,h9,h13] at hr
  refine spcG zl mixed Tryd.func43 (by kernel_rfl) { cfgF with keep:=some [0,1,4]} [xq,xk,xO,xN,xQ,xP,TL,TK] (by kernel_rfl) ?_
  intro I X hI hX
  refine zi (let y0:=I.hid (α:=Go.Ab.Fm) (zC (Go.Ab.Fm.mk m hd bs p (Option.some (Go.Ab.Ln.mk (Go.Ab.Ln.b ln) (Go.Ab.Ln.cr ln) (Go.Ab.Ln.code ln))) fs pa sk co out) (5:Int));let y1:=I.hid (α:=(Prop)) (zO (Go.Ab.Fm.mk m hd bs p (Option.some (Go.Ab.Ln.mk (Go.Ab.Ln.b ln) (Go.Ab.Ln.cr ln) (Go.Ab.Ln.code ln))) fs pa sk co out));let y2:=I.hid (α:=(List Go.Ab.Evt)) (HAppend.hAppend out ([(Go.Ab.Evt.mk (3:Int) (Hd.mk ([]:Str) ([]:Str) (0:Int) ([]:List Fld) (0:Int)) ([]:Str) (Go.Ab.Prt.mk ([]:Str) ([]:Str) ([]:Str) ([]:Str)) (0:Int))]:List Go.Ab.Evt));let y3:=I.hid (α:=(Prop)) (zO (Go.Ab.Fm.mk m hd bs (7:Int) (Option.some (Go.Ab.Ln.mk (Go.Ab.Ln.b ln) (Go.Ab.Ln.cr ln) (Go.Ab.Ln.code ln))) fs pa sk co out));.br (I.ieq k 32) (.br (I.ieq p 1) (.br (I.ieq k 45) (.fin (.ret (.tup [])) [(.abs (.fm (Go.Ab.Fm.mk m hd bs (2:Int) (Option.some (Go.Ab.Ln.mk (Go.Ab.Ln.b ln) (Go.Ab.Ln.cr ln) (Go.Ab.Ln.code ln))) fs pa sk co out)))]) (.br (I.ieq p 2) (.br (I.ieq k 45) (.need y3 (.fin (.ret (.tup [])) [(.abs (.fm (Go.Ab.Fm.mk m hd bs (7:Int) (Option.some (Go.Ab.Ln.mk (Go.Ab.Ln.b ln) (Go.Ab.Ln.cr ln) (Go.Ab.Ln.code ln))) fs pa sk co y2)))])) (.br (I.bnot (I.ieq p 2)) (.fin (.ret (.tup [])) [(.abs (.fm (Go.Ab.Fm.mk m hd bs (3:Int) (Option.some (Go.Ab.Ln.mk (Go.Ab.Ln.b ln) (Go.Ab.Ln.cr ln) (Go.Ab.Ln.code ln))) fs pa sk co out)))]) (.br (I.bnot (I.ieq p 2)) (.br (I.ieq k 13) (.fin (.ret (.tup [])) [(.abs (.fm (Go.Ab.Fm.mk m hd bs (4:Int) (Option.some (Go.Ab.Ln.mk (Go.Ab.Ln.b ln) (Go.Ab.Ln.cr ln) (Go.Ab.Ln.code ln))) fs pa sk co out)))]) (.need y1 (.fin (.ret (.tup [])) [(.abs (.fm y0))]))) (.need y1 (.fin (.ret (.tup [])) [(.abs (.fm y0))]))))) (.br (I.bnot (I.ieq p 2)) (.fin (.ret (.tup [])) [(.abs (.fm (Go.Ab.Fm.mk m hd bs (3:Int) (Option.some (Go.Ab.Ln.mk (Go.Ab.Ln.b ln) (Go.Ab.Ln.cr ln) (Go.Ab.Ln.code ln))) fs pa sk co out)))]) (.br (I.bnot (I.ieq p 2)) (.br (I.ieq k 13) (.fin (.ret (.tup [])) [(.abs (.fm (Go.Ab.Fm.mk m hd bs (4:Int) (Option.some (Go.Ab.Ln.mk (Go.Ab.Ln.b ln) (Go.Ab.Ln.cr ln) (Go.Ab.Ln.code ln))) fs pa sk co out)))]) (.need y1 (.fin (.ret (.tup [])) [(.abs (.fm y0))]))) (.need y1 (.fin (.ret (.tup [])) [(.abs (.fm y0))])))))) (.br (I.ieq p 2) (.br (I.ieq k 45) (.need y3 (.fin (.ret (.tup [])) [(.abs (.fm (Go.Ab.Fm.mk m hd bs (7:Int) (Option.some (Go.Ab.Ln.mk (Go.Ab.Ln.b ln) (Go.Ab.Ln.cr ln) (Go.Ab.Ln.code ln))) fs pa sk co y2)))])) (.br (I.bnot (I.ieq p 2)) (.fin (.ret (.tup [])) [(.abs (.fm (Go.Ab.Fm.mk m hd bs (3:Int) (Option.some (Go.Ab.Ln.mk (Go.Ab.Ln.b ln) (Go.Ab.Ln.cr ln) (Go.Ab.Ln.code ln))) fs pa sk co out)))]) (.br (I.bnot (I.ieq p 2)) (.br (I.ieq k 13) (.fin (.ret (.tup [])) [(.abs (.fm (Go.Ab.Fm.mk m hd bs (4:Int) (Option.some (Go.Ab.Ln.mk (Go.Ab.Ln.b ln) (Go.Ab.Ln.cr ln) (Go.Ab.Ln.code ln))) fs pa sk co out)))]) (.need y1 (.fin (.ret (.tup [])) [(.abs (.fm y0))]))) (.need y1 (.fin (.ret (.tup [])) [(.abs (.fm y0))]))))) (.br (I.bnot (I.ieq p 2)) (.fin (.ret (.tup [])) [(.abs (.fm (Go.Ab.Fm.mk m hd bs (3:Int) (Option.some (Go.Ab.Ln.mk (Go.Ab.Ln.b ln) (Go.Ab.Ln.cr ln) (Go.Ab.Ln.code ln))) fs pa sk co out)))]) (.br (I.bnot (I.ieq p 2)) (.br (I.ieq k 13) (.fin (.ret (.tup [])) [(.abs (.fm (Go.Ab.Fm.mk m hd bs (4:Int) (Option.some (Go.Ab.Ln.mk (Go.Ab.Ln.b ln) (Go.Ab.Ln.cr ln) (Go.Ab.Ln.code ln))) fs pa sk co out)))]) (.need y1 (.fin (.ret (.tup [])) [(.abs (.fm y0))]))) (.need y1 (.fin (.ret (.tup [])) [(.abs (.fm y0))])))))) (.br (I.ieq p 1) (.br (I.ieq k 45) (.fin (.ret (.tup [])) [(.abs (.fm (Go.Ab.Fm.mk m hd bs (2:Int) (Option.some (Go.Ab.Ln.mk (Go.Ab.Ln.b ln) (Go.Ab.Ln.cr ln) (Go.Ab.Ln.code ln))) fs pa sk co out)))]) (.br (I.ieq p 2) (.br (I.ieq k 45) (.need y3 (.fin (.ret (.tup [])) [(.abs (.fm (Go.Ab.Fm.mk m hd bs (7:Int) (Option.some (Go.Ab.Ln.mk (Go.Ab.Ln.b ln) (Go.Ab.Ln.cr ln) (Go.Ab.Ln.code ln))) fs pa sk co y2)))])) (.br (I.bnot (I.ieq p 2)) (.br (I.ieq k 9) (.fin (.ret (.tup [])) [(.abs (.fm (Go.Ab.Fm.mk m hd bs (3:Int) (Option.some (Go.Ab.Ln.mk (Go.Ab.Ln.b ln) (Go.Ab.Ln.cr ln) (Go.Ab.Ln.code ln))) fs pa sk co out)))]) (.br (I.bnot (I.ieq p 2)) (.br (I.ieq k 13) (.fin (.ret (.tup [])) [(.abs (.fm (Go.Ab.Fm.mk m hd bs (4:Int) (Option.some (Go.Ab.Ln.mk (Go.Ab.Ln.b ln) (Go.Ab.Ln.cr ln) (Go.Ab.Ln.code ln))) fs pa sk co out)))]) (.need y1 (.fin (.ret (.tup [])) [(.abs (.fm y0))]))) (.need y1 (.fin (.ret (.tup [])) [(.abs (.fm y0))])))) (.br (I.bnot (I.ieq p 2)) (.br (I.ieq k 13) (.fin (.ret (.tup [])) [(.abs (.fm (Go.Ab.Fm.mk m hd bs (4:Int) (Option.some (Go.Ab.Ln.mk (Go.Ab.Ln.b ln) (Go.Ab.Ln.cr ln) (Go.Ab.Ln.code ln))) fs pa sk co out)))]) (.need y1 (.fin (.ret (.tup [])) [(.abs (.fm y0))]))) (.need y1 (.fin (.ret (.tup [])) [(.abs (.fm y0))]))))) (.br (I.bnot (I.ieq p 2)) (.br (I.ieq k 9) (.fin (.ret (.tup [])) [(.abs (.fm (Go.Ab.Fm.mk m hd bs (3:Int) (Option.some (Go.Ab.Ln.mk (Go.Ab.Ln.b ln) (Go.Ab.Ln.cr ln) (Go.Ab.Ln.code ln))) fs pa sk co out)))]) (.br (I.bnot (I.ieq p 2)) (.br (I.ieq k 13) (.fin (.ret (.tup [])) [(.abs (.fm (Go.Ab.Fm.mk m hd bs (4:Int) (Option.some (Go.Ab.Ln.mk (Go.Ab.Ln.b ln) (Go.Ab.Ln.cr ln) (Go.Ab.Ln.code ln))) fs pa sk co out)))]) (.need y1 (.fin (.ret (.tup [])) [(.abs (.fm y0))]))) (.need y1 (.fin (.ret (.tup [])) [(.abs (.fm y0))])))) (.br (I.bnot (I.ieq p 2)) (.br (I.ieq k 13) (.fin (.ret (.tup [])) [(.abs (.fm (Go.Ab.Fm.mk m hd bs (4:Int) (Option.some (Go.Ab.Ln.mk (Go.Ab.Ln.b ln) (Go.Ab.Ln.cr ln) (Go.Ab.Ln.code ln))) fs pa sk co out)))]) (.need y1 (.fin (.ret (.tup [])) [(.abs (.fm y0))]))) (.need y1 (.fin (.ret (.tup [])) [(.abs (.fm y0))])))))) (.br (I.ieq p 2) (.br (I.ieq k 45) (.need y3 (.fin (.ret (.tup [])) [(.abs (.fm (Go.Ab.Fm.mk m hd bs (7:Int) (Option.some (Go.Ab.Ln.mk (Go.Ab.Ln.b ln) (Go.Ab.Ln.cr ln) (Go.Ab.Ln.code ln))) fs pa sk co y2)))])) (.br (I.bnot (I.ieq p 2)) (.br (I.ieq k 9) (.fin (.ret (.tup [])) [(.abs (.fm (Go.Ab.Fm.mk m hd bs (3:Int) (Option.some (Go.Ab.Ln.mk (Go.Ab.Ln.b ln) (Go.Ab.Ln.cr ln) (Go.Ab.Ln.code ln))) fs pa sk co out)))]) (.br (I.bnot (I.ieq p 2)) (.br (I.ieq k 13) (.fin (.ret (.tup [])) [(.abs (.fm (Go.Ab.Fm.mk m hd bs (4:Int) (Option.some (Go.Ab.Ln.mk (Go.Ab.Ln.b ln) (Go.Ab.Ln.cr ln) (Go.Ab.Ln.code ln))) fs pa sk co out)))]) (.need y1 (.fin (.ret (.tup [])) [(.abs (.fm y0))]))) (.need y1 (.fin (.ret (.tup [])) [(.abs (.fm y0))])))) (.br (I.bnot (I.ieq p 2)) (.br (I.ieq k 13) (.fin (.ret (.tup [])) [(.abs (.fm (Go.Ab.Fm.mk m hd bs (4:Int) (Option.some (Go.Ab.Ln.mk (Go.Ab.Ln.b ln) (Go.Ab.Ln.cr ln) (Go.Ab.Ln.code ln))) fs pa sk co out)))]) (.need y1 (.fin (.ret (.tup [])) [(.abs (.fm y0))]))) (.need y1 (.fin (.ret (.tup [])) [(.abs (.fm y0))]))))) (.br (I.bnot (I.ieq p 2)) (.br (I.ieq k 9) (.fin (.ret (.tup [])) [(.abs (.fm (Go.Ab.Fm.mk m hd bs (3:Int) (Option.some (Go.Ab.Ln.mk (Go.Ab.Ln.b ln) (Go.Ab.Ln.cr ln) (Go.Ab.Ln.code ln))) fs pa sk co out)))]) (.br (I.bnot (I.ieq p 2)) (.br (I.ieq k 13) (.fin (.ret (.tup [])) [(.abs (.fm (Go.Ab.Fm.mk m hd bs (4:Int) (Option.some (Go.Ab.Ln.mk (Go.Ab.Ln.b ln) (Go.Ab.Ln.cr ln) (Go.Ab.Ln.code ln))) fs pa sk co out)))]) (.need y1 (.fin (.ret (.tup [])) [(.abs (.fm y0))]))) (.need y1 (.fin (.ret (.tup [])) [(.abs (.fm y0))])))) (.br (I.bnot (I.ieq p 2)) (.br (I.ieq k 13) (.fin (.ret (.tup [])) [(.abs (.fm (Go.Ab.Fm.mk m hd bs (4:Int) (Option.some (Go.Ab.Ln.mk (Go.Ab.Ln.b ln) (Go.Ab.Ln.cr ln) (Go.Ab.Ln.code ln))) fs pa sk co out)))]) (.need y1 (.fin (.ret (.tup [])) [(.abs (.fm y0))]))) (.need y1 (.fin (.ret (.tup [])) [(.abs (.fm y0))]))))))) (by kernel_rfl) ?_
  simp only [zu]
  subst hI
  simp only [nrmA,nrmB,nrlB,reduceCtorEq,HO.abs.injEq,Gh.fm.injEq]
  (repeat' (first|refine And.intro ?_ ?_|intro _))<;>first|omega|exact True.intro|exact False.elim ‹False›|skip
  all_goals first
    |omega
    |(unfold zO;simp only;omega)
    |(subst hr;simp [*,zC,evE,hd0,prt0];done)
theorem zda (f:Fm) (k:Int) (hneed:zO f∧0≤k∧k≤255):Spc Tryd.prog 43 [.v (.one (.ptr 0 0)),.v (.one (.p (.int .u8 k)))] [.abs (.fm f)] (.ret (.tup [])) [.abs (.fm ((zS f (UInt8.ofNat k.toNat))))]:=by
  obtain⟨m,hd,bs,p,ln,fs,pa,sk,co,out⟩:=f
  cases ln with
  |none=>exact WX m hd bs p fs pa sk co out k hneed
  |some ln=>exact zbI m hd bs p ln fs pa sk co out k hneed
def uw (I:Alg) (args:List D) (hp:List HO):Option CT:=match args,hp with
  |[.v (.one (.ptr 0 0)),.v (.one (.p (.int .u8 k)))],[.abs (.fm f)]=>(fun(f:Fm) (k:Int)=>(some (.one ⟨I.hid (zO f∧0≤k∧k≤255),(.ret (.tup [])),[.abs (.fm (I.hid ((zS f (UInt8.ofNat k.toNat)))))]⟩):Option CT)) f k
  |_,_=>none
theorem XD:zA Tryd.prog 43 (uw alg):=by
  intro args hp r h
  unfold uw at h
  split at h
  · cases h;exact fun hn=>zda _ _ hn
  · cases h
def XC:Know Tryd.prog:=⟨43,uw,XD⟩
def XB:Know Tryd.prog:=⟨43,fun I=>zB I (uw I),zf XD⟩
structure FmS (f:Fm):Prop where
  bs:f.bs=xR f.mark
  ml:f.mark.length≤1000000
  h0:0≤f.held
  h1:f.mark=[]∨f.held<f.mark.length
  s0:0≤f.skip∧f.skip≤2
theorem TJ (m:Str) (hd:Int) (bs:List Int) (p:Int) (fs:List Fld) (pa sk co:Int) (out:List Evt) (k:Int) (hneed:fm9 ⟨m,hd,bs,p,none,fs,pa,sk,co,out⟩∧FmS ⟨m,hd,bs,p,none,fs,pa,sk,co,out⟩∧0≤k∧k≤255):Spc Tryd.prog 42 [.v (.one (.ptr 0 0)),.v (.one (.p (.int .u8 k)))] [.abs (.fm ⟨m,hd,bs,p,none,fs,pa,sk,co,out⟩)] (.ret (.tup [])) [.abs (.fm ((yA ⟨m,hd,bs,p,none,fs,pa,sk,co,out⟩ (UInt8.ofNat k.toNat))))]:=by
  obtain⟨hneed,⟨hbs,hml,hh0,hh1,hs0⟩,h0,h1⟩:=hneed
  unfold fm9 at hneed
  simp only at hneed hbs hml hh0 hh1 hs0
  generalize hr:yA ⟨m,hd,bs,p,none,fs,pa,sk,co,out⟩ (UInt8.ofNat k.toNat)=r
  unfold yA yX fmSk at hr
  simp only [Int.min_def] at hr
  refine spcG zl mixed Tryd.func42 (by kernel_rfl) { cfgF with fz:=[60],keep:=some [0,1,4,5,6]} [ZO,ZN,xq,xk,xO,xN] (by kernel_rfl) ?_
  intro I X hI hX
  refine zi (let y0:=I.len (α:=UInt8) (I.hid (α:=Str) (Prod.fst (yh m (Int.toNat hd) (UInt8.ofNat (Int.toNat k)))));let y1:=I.hid (α:=Int) (Nat.cast (Prod.fst (Prod.snd (yh m (Int.toNat hd) (UInt8.ofNat (Int.toNat k))))));let y2:=I.hid (α:=(List Go.Ab.Evt)) (HAppend.hAppend out ([(Go.Ab.Evt.mk (2:Int) (Hd.mk ([]:Str) ([]:Str) (0:Int) ([]:List Fld) (0:Int)) (I.cut (α:=UInt8) (I.hid (α:=Str) (Prod.fst (yh m (Int.toNat hd) (UInt8.ofNat (Int.toNat k))))) (I.imin sk y0) y0) (Go.Ab.Prt.mk ([]:Str) ([]:Str) ([]:Str) ([]:Str)) (0:Int))]:List Go.Ab.Evt));let y3:=I.hid (α:=(List Go.Ab.Evt)) (HAppend.hAppend out ([(Go.Ab.Evt.mk (6:Int) (Hd.mk ([]:Str) ([]:Str) (0:Int) ([]:List Fld) (0:Int)) ([]:Str) (Go.Ab.Prt.mk ([]:Str) ([]:Str) ([]:Str) ([]:Str)) (0:Int))]:List Go.Ab.Evt));let y4:=I.hid (α:=(Prop)) (zO (Go.Ab.Fm.mk m y1 bs p (Option.none) fs pa (I.sub sk (I.imin sk y0)) co out));let y5:=I.bnot (I.hid (α:=Bool) (Prod.snd (Prod.snd (yh m (Int.toNat hd) (UInt8.ofNat (Int.toNat k))))));.need (I.hid (α:=(Prop)) (And (Eq bs (xR m)) (And (LE.le (List.length m) 1000000) (And (LE.le (0:Int) hd) (And (Or (Eq m ([]:Str)) (LT.lt hd (Nat.cast (List.length m)))) (And (LE.le (0:Int) k) (LE.le k (255:Int)))))))) (.need (I.inr Go.IntKind.i64 (I.sub sk (I.imin sk y0))) (.need (I.cutb (I.imin sk y0) y0 y0) (.br (I.ieq p 6) (.br (I.ilt 0 (I.sub y0 (I.imin sk y0))) (.need y4 (.br y5 (.fin (.ret (.tup [])) [(.abs (.fm (Go.Ab.Fm.mk m y1 bs p (Option.none) fs pa (I.sub sk (I.imin sk y0)) co y2)))]) (.br (I.ieq p 6) (.need (I.hid (α:=(Prop)) (zO (Go.Ab.Fm.mk m y1 bs p (Option.none) fs pa (I.sub sk (I.imin sk y0)) co y2))) (.fin (.ret (.tup [])) [(.abs (.fm (Go.Ab.Fm.mk m y1 bs (1:Int) (Option.none) fs pa (0:Int) co (I.hid (α:=(List Go.Ab.Evt)) (HAppend.hAppend y2 ([(Go.Ab.Evt.mk (6:Int) (Hd.mk ([]:Str) ([]:Str) (0:Int) ([]:List Fld) (0:Int)) ([]:Str) (Go.Ab.Prt.mk ([]:Str) ([]:Str) ([]:Str) ([]:Str)) (0:Int))]:List Go.Ab.Evt))))))])) (.fin (.ret (.tup [])) [(.abs (.fm (Go.Ab.Fm.mk m y1 bs (1:Int) (Option.none) fs pa (0:Int) co y2)))])))) (.br y5 (.fin (.ret (.tup [])) [(.abs (.fm (Go.Ab.Fm.mk m y1 bs p (Option.none) fs pa (I.sub sk (I.imin sk y0)) co out)))]) (.br (I.ieq p 6) (.need y4 (.fin (.ret (.tup [])) [(.abs (.fm (Go.Ab.Fm.mk m y1 bs (1:Int) (Option.none) fs pa (0:Int) co y3)))])) (.fin (.ret (.tup [])) [(.abs (.fm (Go.Ab.Fm.mk m y1 bs (1:Int) (Option.none) fs pa (0:Int) co out)))])))) (.br y5 (.fin (.ret (.tup [])) [(.abs (.fm (Go.Ab.Fm.mk m y1 bs p (Option.none) fs pa (I.sub sk (I.imin sk y0)) co out)))]) (.br (I.ieq p 6) (.need y4 (.fin (.ret (.tup [])) [(.abs (.fm (Go.Ab.Fm.mk m y1 bs (1:Int) (Option.none) fs pa (0:Int) co y3)))])) (.fin (.ret (.tup [])) [(.abs (.fm (Go.Ab.Fm.mk m y1 bs (1:Int) (Option.none) fs pa (0:Int) co out)))]))))))) (by kernel_rfl) ?_
  simp only [zu]
  generalize yh m hd.toNat (UInt8.ofNat k.toNat)=q at *
  obtain⟨o,n2,fd⟩:=q
  subst hI
  simp only [nrmA,nrmB,nrlB,reduceCtorEq,HO.abs.injEq,Gh.fm.injEq]
  simp only at hr
  have hn:0≤(if sk≤(o.length:Int) then sk else(o.length:Int))∧(if sk≤(o.length:Int) then sk else(o.length:Int))≤o.length∧(if sk≤(o.length:Int) then sk else(o.length:Int))≤sk:=by split<;>omega
  generalize(if sk≤(o.length:Int) then sk else(o.length:Int))=n at *
  rw [List.take_of_length_le (show(o.drop n.toNat).length≤o.length - n.toNat by rw [List.length_drop];exact Nat.le_refl _)]
  have hne:0<(o.length:Int) - n→¬ o.drop n.toNat=[]:=fun h k=>by have:=congrArg List.length k;rw [List.length_drop,List.length_nil] at this;omega
  have hnn: ¬ 0<(o.length:Int) - n→o.drop n.toNat=[]:=fun h=>List.drop_of_length_le (by omega)
  generalize o.drop n.toNat=D at *
  (repeat' (first|refine And.intro ?_ ?_|intro _))<;>first|omega|exact True.intro|exact False.elim ‹False›|skip
  all_goals first
    |omega
    |with_reducible assumption
    |(unfold zO;simp only [List.length_append,List.length_singleton];omega)
    |(have hne:=hne (by omega);clear hnn;subst hr;simp [*,evB,evO,hd0,prt0];done)
    |(have hnn:=hnn (by omega);clear hne;subst hr;simp [*,evB,evO,hd0,prt0];done)
    |(clear hne hnn;subst hr;simp [*,evB,evO,hd0,prt0];done)
def uq (I:Alg) (args:List D) (hp:List HO):Option CT:=match args,hp with
  |[.v (.one (.ptr 0 0)),.v (.one (.p (.int .u8 k)))],[.abs (.fm ⟨m,hd,bs,p,none,fs,pa,sk,co,out⟩)]=>(fun(m:Str) (hd:Int) (bs:List Int) (p:Int) (fs:List Fld) (pa sk co:Int) (out:List Evt) (k:Int)=>(some (.one ⟨I.hid (fm9 ⟨m,hd,bs,p,none,fs,pa,sk,co,out⟩∧FmS ⟨m,hd,bs,p,none,fs,pa,sk,co,out⟩∧0≤k∧k≤255),(.ret (.tup [])),[.abs (.fm (I.hid ((yA ⟨m,hd,bs,p,none,fs,pa,sk,co,out⟩ (UInt8.ofNat k.toNat)))))]⟩):Option CT)) m hd bs p fs pa sk co out k
  |_,_=>none
theorem XA:zA Tryd.prog 42 (uq alg):=by
  intro args hp r h
  unfold uq at h
  split at h
  · cases h;exact fun hn=>TJ _ _ _ _ _ _ _ _ _ _ hn
  · cases h
def RJ:Know Tryd.prog:=⟨42,uq,XA⟩
def RI:Know Tryd.prog:=⟨42,fun I=>zB I (uq I),zf XA⟩
theorem zc8 (m:Str) (hd:Int) (bs:List Int) (p:Int) (ln:Ln) (fs:List Fld) (pa sk co:Int) (out:List Evt) (k:Int) (hneed:fm9 ⟨m,hd,bs,p,some ln,fs,pa,sk,co,out⟩∧FmS ⟨m,hd,bs,p,some ln,fs,pa,sk,co,out⟩∧0≤k∧k≤255):Spc Tryd.prog 42 [.v (.one (.ptr 0 0)),.v (.one (.p (.int .u8 k)))] [.abs (.fm ⟨m,hd,bs,p,some ln,fs,pa,sk,co,out⟩)] (.ret (.tup [])) [.abs (.fm ((yA ⟨m,hd,bs,p,some ln,fs,pa,sk,co,out⟩ (UInt8.ofNat k.toNat))))]:=by
  obtain⟨hneed,⟨hbs,hml,hh0,hh1,hs0⟩,h0,h1⟩:=hneed
  unfold fm9 at hneed
  simp only at hneed hbs hml hh0 hh1 hs0
  generalize hr:yA ⟨m,hd,bs,p,some ln,fs,pa,sk,co,out⟩ (UInt8.ofNat k.toNat)=r
  unfold yA yX fmSk at hr
  simp only [Int.min_def] at hr
  refine spcG zl mixed Tryd.func42 (by kernel_rfl) { cfgF with fz:=[60],keep:=some [0,1,4,5,6]} [ZO,ZN,xq,xk,xO,xN,RJ,RI] (by kernel_rfl) ?_
  intro I X hI hX
  refine zi (let y0:=I.len (α:=UInt8) (I.hid (α:=Str) (Prod.fst (yh m (Int.toNat hd) (UInt8.ofNat (Int.toNat k)))));let y1:=I.hid (α:=Int) (Nat.cast (Prod.fst (Prod.snd (yh m (Int.toNat hd) (UInt8.ofNat (Int.toNat k))))));let y2:=I.hid (α:=(List Go.Ab.Evt)) (HAppend.hAppend out ([(Go.Ab.Evt.mk (2:Int) (Hd.mk ([]:Str) ([]:Str) (0:Int) ([]:List Fld) (0:Int)) (I.cut (α:=UInt8) (I.hid (α:=Str) (Prod.fst (yh m (Int.toNat hd) (UInt8.ofNat (Int.toNat k))))) (I.imin sk y0) y0) (Go.Ab.Prt.mk ([]:Str) ([]:Str) ([]:Str) ([]:Str)) (0:Int))]:List Go.Ab.Evt));let y3:=I.hid (α:=(Prop)) (zO (Go.Ab.Fm.mk m y1 bs p (Option.some (Go.Ab.Ln.mk (Go.Ab.Ln.b ln) (Go.Ab.Ln.cr ln) (Go.Ab.Ln.code ln))) fs pa (I.sub sk (I.imin sk y0)) co out));let y4:=I.hid (α:=(List Go.Ab.Evt)) (HAppend.hAppend out ([(Go.Ab.Evt.mk (6:Int) (Hd.mk ([]:Str) ([]:Str) (0:Int) ([]:List Fld) (0:Int)) ([]:Str) (Go.Ab.Prt.mk ([]:Str) ([]:Str) ([]:Str) ([]:Str)) (0:Int))]:List Go.Ab.Evt));let y5:=I.bnot (I.hid (α:=Bool) (Prod.snd (Prod.snd (yh m (Int.toNat hd) (UInt8.ofNat (Int.toNat k))))));.need (I.hid (α:=(Prop)) (And (Eq bs (xR m)) (And (LE.le (List.length m) 1000000) (And (LE.le (0:Int) hd) (And (Or (Eq m ([]:Str)) (LT.lt hd (Nat.cast (List.length m)))) (And (LE.le (0:Int) k) (LE.le k (255:Int)))))))) (.need (I.inr Go.IntKind.i64 (I.sub sk (I.imin sk y0))) (.need (I.cutb (I.imin sk y0) y0 y0) (.br (I.ieq p 6) (.br (I.ilt 0 (I.sub y0 (I.imin sk y0))) (.need y3 (.br y5 (.fin (.ret (.tup [])) [(.abs (.fm (Go.Ab.Fm.mk m y1 bs p (Option.some (Go.Ab.Ln.mk (Go.Ab.Ln.b ln) (Go.Ab.Ln.cr ln) (Go.Ab.Ln.code ln))) fs pa (I.sub sk (I.imin sk y0)) co y2)))]) (.br (I.ieq p 6) (.need (I.hid (α:=(Prop)) (zO (Go.Ab.Fm.mk m y1 bs p (Option.some (Go.Ab.Ln.mk (Go.Ab.Ln.b ln) (Go.Ab.Ln.cr ln) (Go.Ab.Ln.code ln))) fs pa (I.sub sk (I.imin sk y0)) co y2))) (.fin (.ret (.tup [])) [(.abs (.fm (Go.Ab.Fm.mk m y1 bs (1:Int) (Option.some (Go.Ab.Ln.mk (Go.Ab.Ln.b ln) (Go.Ab.Ln.cr ln) (Go.Ab.Ln.code ln))) fs pa (0:Int) co (I.hid (α:=(List Go.Ab.Evt)) (HAppend.hAppend y2 ([(Go.Ab.Evt.mk (6:Int) (Hd.mk ([]:Str) ([]:Str) (0:Int) ([]:List Fld) (0:Int)) ([]:Str) (Go.Ab.Prt.mk ([]:Str) ([]:Str) ([]:Str) ([]:Str)) (0:Int))]:List Go.Ab.Evt))))))])) (.fin (.ret (.tup [])) [(.abs (.fm (Go.Ab.Fm.mk m y1 bs (1:Int) (Option.some (Go.Ab.Ln.mk (Go.Ab.Ln.b ln) (Go.Ab.Ln.cr ln) (Go.Ab.Ln.code ln))) fs pa (0:Int) co y2)))])))) (.br y5 (.fin (.ret (.tup [])) [(.abs (.fm (Go.Ab.Fm.mk m y1 bs p (Option.some (Go.Ab.Ln.mk (Go.Ab.Ln.b ln) (Go.Ab.Ln.cr ln) (Go.Ab.Ln.code ln))) fs pa (I.sub sk (I.imin sk y0)) co out)))]) (.br (I.ieq p 6) (.need y3 (.fin (.ret (.tup [])) [(.abs (.fm (Go.Ab.Fm.mk m y1 bs (1:Int) (Option.some (Go.Ab.Ln.mk (Go.Ab.Ln.b ln) (Go.Ab.Ln.cr ln) (Go.Ab.Ln.code ln))) fs pa (0:Int) co y4)))])) (.fin (.ret (.tup [])) [(.abs (.fm (Go.Ab.Fm.mk m y1 bs (1:Int) (Option.some (Go.Ab.Ln.mk (Go.Ab.Ln.b ln) (Go.Ab.Ln.cr ln) (Go.Ab.Ln.code ln))) fs pa (0:Int) co out)))])))) (.br y5 (.fin (.ret (.tup [])) [(.abs (.fm (Go.Ab.Fm.mk m y1 bs p (Option.some (Go.Ab.Ln.mk (Go.Ab.Ln.b ln) (Go.Ab.Ln.cr ln) (Go.Ab.Ln.code ln))) fs pa (I.sub sk (I.imin sk y0)) co out)))]) (.br (I.ieq p 6) (.need y3 (.fin (.ret (.tup [])) [(.abs (.fm (Go.Ab.Fm.mk m y1 bs (1:Int) (Option.some (Go.Ab.Ln.mk (Go.Ab.Ln.b ln) (Go.Ab.Ln.cr ln) (Go.Ab.Ln.code ln))) fs pa (0:Int) co y4)))])) (.fin (.ret (.tup [])) [(.abs (.fm (Go.Ab.Fm.mk m y1 bs (1:Int) (Option.some (Go.Ab.Ln.mk (Go.Ab.Ln.b ln) (Go.Ab.Ln.cr ln) (Go.Ab.Ln.code ln))) fs pa (0:Int) co out)))]))))))) (by kernel_rfl) ?_
  simp only [zu]
  generalize yh m hd.toNat (UInt8.ofNat k.toNat)=q at *
  obtain⟨o,n2,fd⟩:=q
  subst hI
  simp only [nrmA,nrmB,nrlB,reduceCtorEq,HO.abs.injEq,Gh.fm.injEq]
  simp only at hr
  have hn:0≤(if sk≤(o.length:Int) then sk else(o.length:Int))∧(if sk≤(o.length:Int) then sk else(o.length:Int))≤o.length∧(if sk≤(o.length:Int) then sk else(o.length:Int))≤sk:=by split<;>omega
  generalize(if sk≤(o.length:Int) then sk else(o.length:Int))=n at *
  rw [List.take_of_length_le (show(o.drop n.toNat).length≤o.length - n.toNat by rw [List.length_drop];exact Nat.le_refl _)]
  have hne:0<(o.length:Int) - n→¬ o.drop n.toNat=[]:=fun h k=>by have:=congrArg List.length k;rw [List.length_drop,List.length_nil] at this;omega
  have hnn: ¬ 0<(o.length:Int) - n→o.drop n.toNat=[]:=fun h=>List.drop_of_length_le (by omega)
  generalize o.drop n.toNat=D at *
  (repeat' (first|refine And.intro ?_ ?_|intro _))<;>first|omega|exact True.intro|exact False.elim ‹False›|skip
  all_goals first
    |omega
    |with_reducible assumption
    |(unfold zO;simp only [List.length_append,List.length_singleton];omega)
    |(have hne:=hne (by omega);clear hnn;subst hr;simp [*,evB,evO,hd0,prt0];done)
    |(have hnn:=hnn (by omega);clear hne;subst hr;simp [*,evB,evO,hd0,prt0];done)
    |(clear hne hnn;subst hr;simp [*,evB,evO,hd0,prt0];done)
theorem zeC (f:Fm) (k:Int) (hneed:fm9 f∧FmS f∧0≤k∧k≤255):Spc Tryd.prog 42 [.v (.one (.ptr 0 0)),.v (.one (.p (.int .u8 k)))] [.abs (.fm f)] (.ret (.tup [])) [.abs (.fm ((yA f (UInt8.ofNat k.toNat))))]:=by
  obtain⟨m,hd,bs,p,ln,fs,pa,sk,co,out⟩:=f
  cases ln with
  |none=>exact TJ m hd bs p fs pa sk co out k hneed
  |some ln=>exact zc8 m hd bs p ln fs pa sk co out k hneed
def rJ (I:Alg) (args:List D) (hp:List HO):Option CT:=match args,hp with
  |[.v (.one (.ptr 0 0)),.v (.one (.p (.int .u8 k)))],[.abs (.fm f)]=>(fun(f:Fm) (k:Int)=>(some (.one ⟨I.hid (fm9 f∧FmS f∧0≤k∧k≤255),(.ret (.tup [])),[.abs (.fm (I.hid ((yA f (UInt8.ofNat k.toNat)))))]⟩):Option CT)) f k
  |_,_=>none
theorem WW:zA Tryd.prog 42 (rJ alg):=by
  intro args hp r h
  unfold rJ at h
  split at h
  · cases h;exact fun hn=>zeC _ _ hn
  · cases h
def WV:Know Tryd.prog:=⟨42,rJ,WW⟩
def WU:Know Tryd.prog:=⟨42,fun I=>zB I (rJ I),zf WW⟩
end Go.Proofs.YtknaogelmckimaaDoor
namespace Go.Proofs.YtknaogelmckimaaDoor
open Go Go.Sep Go.Ab
set_option maxRecDepth 100000
theorem zeI (m:Str) (n:Nat) (c:UInt8):m=[]∨(yh m n c).2.1<m.length:=by
  unfold yh
  by_cases h:m=[]
  · exact .inl h
  · rw [if_neg h]
    have h0:0<m.length:=by cases m<;>simp_all
    unfold P.feed
    simp only
    repeat' split
    all_goals first|exact .inr h0|(right;assumption)
theorem Zm (m:Str) (n:Nat) (c:UInt8):m=[]∨(((yh m n c).2.1:Nat):Int)<m.length:=(zeI m n c).imp id fun h=>by omega
theorem SY (l:List Fld):(xI l).1.bytes=[]:=by
  unfold xI zfK
  repeat' split
  all_goals rfl
def FdOk (f:List Fld):Prop:=f.length≤1000∧∀ x ∈ f,x.name.length≤1000000∧x.value.length≤1000000
structure FmB (f:Fm):Prop where
  few:f.out.length≤9000000
  sk:FmS f
  fd:FdOk f.fields
  p0:0≤f.parts∧f.parts≤12
theorem zdc (m:Str) (hd:Int) (bs:List Int) (p:Int) (fs:List Fld) (pa sk co:Int) (out:List Evt) (hneed:FmB ⟨m,hd,bs,p,none,fs,pa,sk,co,out⟩):Spc Tryd.prog 62 [.v (.one (.ptr 0 0))] [.abs (.fm ⟨m,hd,bs,p,none,fs,pa,sk,co,out⟩)] (.ret (.tup [])) [.abs (.fm ((yc ⟨m,hd,bs,p,none,fs,pa,sk,co,out⟩)))]:=by
  obtain⟨h9,⟨hbs,hml,hh0,hh1,hs0⟩,⟨hfl,hff⟩,hp0⟩:=hneed
  simp only at h9 hbs hml hh0 hh1 hs0 hfl hff hp0
  generalize hr:yc ⟨m,hd,bs,p,none,fs,pa,sk,co,out⟩=r
  have hb:=SY fs
  unfold yc at hr
  simp only [zC,fmSk,evP,evF,Int.toNat_natCast] at hr
  refine spcG zl mixed Tryd.func62 (by kernel_rfl) { cfgF with keep:=some [0,2,3]} [ZO,ZN,zaG,zaF,xq,xk,xO,xN,xQ,xP] (by kernel_rfl) ?_
  intro I X hI hX
  refine zi (let y0:=I.hid (α:=(Prop)) (And (Eq bs (xR m)) (And (LE.le (List.length m) 1000000) (And (LE.le (0:Int) (I.hid (α:=Int) (Nat.cast (Prod.fst (Prod.snd (yh m (Int.toNat hd) (UInt8.ofNat (Int.toNat (13:Int))))))))) (And (Or (Eq m ([]:Str)) (LT.lt (I.hid (α:=Int) (Nat.cast (Prod.fst (Prod.snd (yh m (Int.toNat hd) (UInt8.ofNat (Int.toNat (13:Int)))))))) (Nat.cast (List.length m)))) (And (LE.le (0:Int) (10:Int)) (LE.le (10:Int) (255:Int)))))));let y1:=I.hid (α:=(List Go.Ab.Evt)) (HAppend.hAppend out ([(Go.Ab.Evt.mk (5:Int) (Hd.mk ([]:Str) ([]:Str) (0:Int) ([]:List Fld) (0:Int)) ([]:Str) (Go.Ab.Prt.mk (I.hid (α:=Str) (Go.Ab.Prt.name (Prod.fst (xI fs)))) (I.hid (α:=Str) (Go.Ab.Prt.file (Prod.fst (xI fs)))) (I.hid (α:=Str) (Go.Ab.Prt.type (Prod.fst (xI fs)))) ([]:Str)) (0:Int))]:List Go.Ab.Evt));let y2:=I.hid (α:=(Prop)) (And (Eq bs (xR m)) (And (LE.le (List.length m) 1000000) (And (LE.le (0:Int) hd) (And (Or (Eq m ([]:Str)) (LT.lt hd (Nat.cast (List.length m)))) (And (LE.le (0:Int) (13:Int)) (LE.le (13:Int) (255:Int)))))));let y3:=I.hid (α:=Int) (Nat.cast (Prod.fst (Prod.snd (yh m (Int.toNat (I.hid (α:=Int) (Nat.cast (Prod.fst (Prod.snd (yh m (Int.toNat hd) (UInt8.ofNat (Int.toNat (13:Int))))))))) (UInt8.ofNat (Int.toNat (10:Int)))))));let y4:=I.hid (α:=(Prop)) (zO (Go.Ab.Fm.mk m hd bs (6:Int) (Option.none) fs (I.add pa 1) sk co out));let y5:=I.hid (α:=(Prop)) (zO (Go.Ab.Fm.mk m hd bs p (Option.none) fs pa sk co out));let y6:=I.hid (α:=Int) (Prod.snd (xI fs));let y7:=I.hid (α:=Go.Ab.Fm) (zC (Go.Ab.Fm.mk m hd bs p (Option.none) fs pa sk co out) y6);let y8:=I.inr Go.IntKind.i64 (I.add pa 1);.need (I.hid (α:=(Prop)) (And (LE.le (List.length fs) 1000) (∀ (f:Fld),f ∈ fs→List.length f.name≤1000000∧List.length f.value≤1000000))) (.br (I.ieq y6 0) (.br (I.ieq pa 12) (.br (I.bnot (I.ieq 8 0)) (.need y5 (.fin (.ret (.tup [])) [(.abs (.fm (I.hid (α:=Go.Ab.Fm) (zC (Go.Ab.Fm.mk m hd bs p (Option.none) fs pa sk co out) (8:Int)))))])) (.need y8 (.need y4 (.need y2 (.need y0 (.fin (.ret (.tup [])) [(.abs (.fm (Go.Ab.Fm.mk m y3 bs (6:Int) (Option.none) fs (I.add pa 1) (2:Int) co y1)))])))))) (.br (I.bnot (I.ieq y6 0)) (.need y5 (.fin (.ret (.tup [])) [(.abs (.fm y7))])) (.need y8 (.need y4 (.need y2 (.need y0 (.fin (.ret (.tup [])) [(.abs (.fm (Go.Ab.Fm.mk m y3 bs (6:Int) (Option.none) fs (I.add pa 1) (2:Int) co y1)))]))))))) (.br (I.bnot (I.ieq y6 0)) (.need y5 (.fin (.ret (.tup [])) [(.abs (.fm y7))])) (.need y8 (.need y4 (.need y2 (.need y0 (.fin (.ret (.tup [])) [(.abs (.fm (Go.Ab.Fm.mk m y3 bs (6:Int) (Option.none) fs (I.add pa 1) (2:Int) co y1)))])))))))) (by kernel_rfl) ?_
  simp only [zu]
  have hl1:=Zm m hd.toNat 13
  generalize xI fs=P at *
  obtain⟨⟨a,b,c,d⟩,e⟩:=P
  simp only at hb hr
  subst hb
  subst hI
  simp only [nrmA,nrmB,nrlB,reduceCtorEq,HO.abs.injEq,Gh.fm.injEq]
  (repeat' (first|refine And.intro ?_ ?_|intro _))<;>first|omega|exact True.intro|exact False.elim ‹False›|skip
  all_goals first
    |omega
    |with_reducible assumption
    |exact(hff _ ‹_›).1
    |exact(hff _ ‹_›).2
    |(unfold zO;simp only [List.length_append,List.length_singleton];omega)
    |exact hl1
    |(subst hr;simp [*,evF,hd0,prt0,zC];done)
theorem zdb (m:Str) (hd:Int) (bs:List Int) (p:Int) (ln:Ln) (fs:List Fld) (pa sk co:Int) (out:List Evt) (hneed:FmB ⟨m,hd,bs,p,some ln,fs,pa,sk,co,out⟩):Spc Tryd.prog 62 [.v (.one (.ptr 0 0))] [.abs (.fm ⟨m,hd,bs,p,some ln,fs,pa,sk,co,out⟩)] (.ret (.tup [])) [.abs (.fm ((yc ⟨m,hd,bs,p,some ln,fs,pa,sk,co,out⟩)))]:=by
  obtain⟨h9,⟨hbs,hml,hh0,hh1,hs0⟩,⟨hfl,hff⟩,hp0⟩:=hneed
  simp only at h9 hbs hml hh0 hh1 hs0 hfl hff hp0
  generalize hr:yc ⟨m,hd,bs,p,some ln,fs,pa,sk,co,out⟩=r
  have hb:=SY fs
  unfold yc at hr
  simp only [zC,fmSk,evP,evF,Int.toNat_natCast] at hr
  refine spcG zl mixed Tryd.func62 (by kernel_rfl) { cfgF with keep:=some [0,2,3]} [ZO,ZN,zaG,zaF,xq,xk,xO,xN,xQ,xP] (by kernel_rfl) ?_
  intro I X hI hX
  refine zi (let y0:=I.hid (α:=(Prop)) (And (Eq bs (xR m)) (And (LE.le (List.length m) 1000000) (And (LE.le (0:Int) (I.hid (α:=Int) (Nat.cast (Prod.fst (Prod.snd (yh m (Int.toNat hd) (UInt8.ofNat (Int.toNat (13:Int))))))))) (And (Or (Eq m ([]:Str)) (LT.lt (I.hid (α:=Int) (Nat.cast (Prod.fst (Prod.snd (yh m (Int.toNat hd) (UInt8.ofNat (Int.toNat (13:Int)))))))) (Nat.cast (List.length m)))) (And (LE.le (0:Int) (10:Int)) (LE.le (10:Int) (255:Int)))))));let y1:=I.hid (α:=(List Go.Ab.Evt)) (HAppend.hAppend out ([(Go.Ab.Evt.mk (5:Int) (Hd.mk ([]:Str) ([]:Str) (0:Int) ([]:List Fld) (0:Int)) ([]:Str) (Go.Ab.Prt.mk (I.hid (α:=Str) (Go.Ab.Prt.name (Prod.fst (xI fs)))) (I.hid (α:=Str) (Go.Ab.Prt.file (Prod.fst (xI fs)))) (I.hid (α:=Str) (Go.Ab.Prt.type (Prod.fst (xI fs)))) ([]:Str)) (0:Int))]:List Go.Ab.Evt));let y2:=I.hid (α:=(Prop)) (And (Eq bs (xR m)) (And (LE.le (List.length m) 1000000) (And (LE.le (0:Int) hd) (And (Or (Eq m ([]:Str)) (LT.lt hd (Nat.cast (List.length m)))) (And (LE.le (0:Int) (13:Int)) (LE.le (13:Int) (255:Int)))))));let y3:=I.hid (α:=Int) (Nat.cast (Prod.fst (Prod.snd (yh m (Int.toNat (I.hid (α:=Int) (Nat.cast (Prod.fst (Prod.snd (yh m (Int.toNat hd) (UInt8.ofNat (Int.toNat (13:Int))))))))) (UInt8.ofNat (Int.toNat (10:Int)))))));let y4:=I.hid (α:=(Prop)) (zO (Go.Ab.Fm.mk m hd bs (6:Int) (Option.some (Go.Ab.Ln.mk (Go.Ab.Ln.b ln) (Go.Ab.Ln.cr ln) (Go.Ab.Ln.code ln))) fs (I.add pa 1) sk co out));let y5:=I.hid (α:=(Prop)) (zO (Go.Ab.Fm.mk m hd bs p (Option.some (Go.Ab.Ln.mk (Go.Ab.Ln.b ln) (Go.Ab.Ln.cr ln) (Go.Ab.Ln.code ln))) fs pa sk co out));let y6:=I.hid (α:=Go.Ab.Fm) (zC (Go.Ab.Fm.mk m hd bs p (Option.some (Go.Ab.Ln.mk (Go.Ab.Ln.b ln) (Go.Ab.Ln.cr ln) (Go.Ab.Ln.code ln))) fs pa sk co out) (I.hid (α:=Int) (Prod.snd (xI fs))));let y7:=I.ieq (I.hid (α:=Int) (Prod.snd (xI fs))) 0;let y8:=I.inr Go.IntKind.i64 (I.add pa 1);.need (I.hid (α:=(Prop)) (And (LE.le (List.length fs) 1000) (∀ (f:Fld),f ∈ fs→List.length f.name≤1000000∧List.length f.value≤1000000))) (.br y7 (.br (I.ieq pa 12) (.br (I.bnot (I.ieq 8 0)) (.need y5 (.fin (.ret (.tup [])) [(.abs (.fm (I.hid (α:=Go.Ab.Fm) (zC (Go.Ab.Fm.mk m hd bs p (Option.some (Go.Ab.Ln.mk (Go.Ab.Ln.b ln) (Go.Ab.Ln.cr ln) (Go.Ab.Ln.code ln))) fs pa sk co out) (8:Int)))))])) (.need y8 (.need y4 (.need y2 (.need y0 (.fin (.ret (.tup [])) [(.abs (.fm (Go.Ab.Fm.mk m y3 bs (6:Int) (Option.some (Go.Ab.Ln.mk (Go.Ab.Ln.b ln) (Go.Ab.Ln.cr ln) (Go.Ab.Ln.code ln))) fs (I.add pa 1) (2:Int) co y1)))])))))) (.br (I.bnot y7) (.need y5 (.fin (.ret (.tup [])) [(.abs (.fm y6))])) (.need y8 (.need y4 (.need y2 (.need y0 (.fin (.ret (.tup [])) [(.abs (.fm (Go.Ab.Fm.mk m y3 bs (6:Int) (Option.some (Go.Ab.Ln.mk (Go.Ab.Ln.b ln) (Go.Ab.Ln.cr ln) (Go.Ab.Ln.code ln))) fs (I.add pa 1) (2:Int) co y1)))]))))))) (.br (I.bnot y7) (.need y5 (.fin (.ret (.tup [])) [(.abs (.fm y6))])) (.need y8 (.need y4 (.need y2 (.need y0 (.fin (.ret (.tup [])) [(.abs (.fm (Go.Ab.Fm.mk m y3 bs (6:Int) (Option.some (Go.Ab.Ln.mk (Go.Ab.Ln.b ln) (Go.Ab.Ln.cr ln) (Go.Ab.Ln.code ln))) fs (I.add pa 1) (2:Int) co y1)))])))))))) (by kernel_rfl) ?_
  simp only [zu]
  have hl1:=Zm m hd.toNat 13
  generalize xI fs=P at *
  obtain⟨⟨a,b,c,d⟩,e⟩:=P
  simp only at hb hr
  subst hb
  subst hI
  simp only [nrmA,nrmB,nrlB,reduceCtorEq,HO.abs.injEq,Gh.fm.injEq]
  (repeat' (first|refine And.intro ?_ ?_|intro _))<;>first|omega|exact True.intro|exact False.elim ‹False›|skip
  all_goals first
    |omega
    |with_reducible assumption
    |exact(hff _ ‹_›).1
    |exact(hff _ ‹_›).2
    |(unfold zO;simp only [List.length_append,List.length_singleton];omega)
    |exact hl1
    |(subst hr;simp [*,evF,hd0,prt0,zC];done)
theorem zeD (f:Fm) (hneed:FmB f):Spc Tryd.prog 62 [.v (.one (.ptr 0 0))] [.abs (.fm f)] (.ret (.tup [])) [.abs (.fm ((yc f)))]:=by
  obtain⟨m,hd,bs,p,ln,fs,pa,sk,co,out⟩:=f
  cases ln with
  |none=>exact zdc m hd bs p fs pa sk co out hneed
  |some ln=>exact zdb m hd bs p ln fs pa sk co out hneed
def rM (I:Alg) (args:List D) (hp:List HO):Option CT:=match args,hp with
  |[.v (.one (.ptr 0 0))],[.abs (.fm f)]=>(fun(f:Fm)=>(some (.one ⟨I.hid (FmB f),(.ret (.tup [])),[.abs (.fm (I.hid ((yc f))))]⟩):Option CT)) f
  |_,_=>none
theorem W9:zA Tryd.prog 62 (rM alg):=by
  intro args hp r h
  unfold rM at h
  split at h
  · cases h;exact fun hn=>zeD _ hn
  · cases h
def WZ:Know Tryd.prog:=⟨62,rM,W9⟩
def WY:Know Tryd.prog:=⟨62,fun I=>zB I (rM I),zf W9⟩
theorem zet (m:Str) (hd:Int) (bs:List Int) (p:Int) (fs:List Fld) (pa sk co:Int) (out:List Evt) (s:Str) (hneed:FmB ⟨m,hd,bs,p,none,fs,pa,sk,co,out⟩∧s.length≤1000000):Spc Tryd.prog 47 [.v (.one (.ptr 0 0)),.v (.one (.p (.str s)))] [.abs (.fm ⟨m,hd,bs,p,none,fs,pa,sk,co,out⟩)] (.ret (.tup [])) [.abs (.fm ((yH ⟨m,hd,bs,p,none,fs,pa,sk,co,out⟩ s)))]:=by
  obtain⟨⟨h9,hS,⟨hfl,hff⟩,hp0⟩,hs⟩:=hneed
  simp only at h9 hfl hff hp0
  generalize hr:yH ⟨m,hd,bs,p,none,fs,pa,sk,co,out⟩ s=r
  unfold yH at hr
  simp only at hr
  refine spcG zl mixed Tryd.func47 (by kernel_rfl) { cfgF with keep:=some [0,1,4,5]} [QS,QO,xQ,xP,WZ,WY] (by kernel_rfl) ?_
  intro I X hI hX
  refine zi (let y3:=I.hid (α:=Str) (Fld.name (Prod.fst (yP s)));let y2:=I.hid (α:=Str) (Fld.value (Prod.fst (yP s)));let y0:=I.few (I.add (I.len (α:=Fld) fs) (I.len (α:=Fld) ([(Fld.mk y3 y2)]:List Fld))) 100000000;let y1:=I.hid (α:=(Prop)) (zO (Go.Ab.Fm.mk m hd bs p (Option.none) fs pa sk co out));let y4:=I.hid (α:=Int) (Prod.snd (yP s));.br (I.seq s ([]:Str)) (.need (I.hid (α:=(Prop)) (FmB (Go.Ab.Fm.mk m hd bs p (Option.none) fs pa sk co out))) (.fin (.ret (.tup [])) [(.abs (.fm (I.hid (α:=Go.Ab.Fm) (yc (Go.Ab.Fm.mk m hd bs p (Option.none) fs pa sk co out)))))])) (.br (I.ieq (I.len (α:=Fld) fs) 16) (.need y1 (.fin (.ret (.tup [])) [(.abs (.fm (I.hid (α:=Go.Ab.Fm) (zC (Go.Ab.Fm.mk m hd bs p (Option.none) fs pa sk co out) (8:Int)))))])) (.need (I.hid (α:=(Prop)) (LE.le (List.length s) 1000000)) (.br (I.bnot (I.ieq y4 0)) (.need y1 (.fin (.ret (.tup [])) [(.abs (.fm (I.hid (α:=Go.Ab.Fm) (zC (Go.Ab.Fm.mk m hd bs p (Option.none) fs pa sk co out) y4))))])) (.both (.need y0 (.fin (.ret (.tup [])) [(.abs (.fm (Go.Ab.Fm.mk m hd bs p (Option.none) (I.app (α:=Fld) fs ([(Fld.mk y3 y2)]:List Fld)) pa sk co out)))])) (.need y0 (.fin (.ret (.tup [])) [(.abs (.fm (Go.Ab.Fm.mk m hd bs p (Option.none) (I.app (α:=Fld) fs ([(Fld.mk y3 y2)]:List Fld)) pa sk co out)))]))))))) (by kernel_rfl) ?_
  simp only [zu]
  generalize yP s=y at *
  obtain⟨⟨a,b⟩,e⟩:=y
  subst hI
  simp only [nrmA,nrmB,nrlB,reduceCtorEq,HO.abs.injEq,Gh.fm.injEq]
  (repeat' (first|refine And.intro ?_ ?_|intro _))<;>first|omega|exact True.intro|exact False.elim ‹False›|skip
  all_goals first
    |omega
    |with_reducible assumption
    |exact⟨h9,hS,⟨hfl,hff⟩,hp0⟩
    |(unfold zO;simp only;omega)
    |(simp only [List.length_singleton];omega)
    |(subst hr;simp [*,zC];done)
    |(subst hr;rw [if_pos ‹s=[]›];done)
    |(subst hr;rw [if_neg ‹¬ s=[]›,if_pos (by omega)];done)
    |(subst hr;rw [if_neg ‹¬ s=[]›,if_neg (by omega),if_pos ‹¬ e=0›];done)
    |(subst hr;rw [if_neg ‹¬ s=[]›,if_neg (by omega),if_neg (fun h=>h ‹e=0›)];done)
theorem zes (m:Str) (hd:Int) (bs:List Int) (p:Int) (ln:Ln) (fs:List Fld) (pa sk co:Int) (out:List Evt) (s:Str) (hneed:FmB ⟨m,hd,bs,p,some ln,fs,pa,sk,co,out⟩∧s.length≤1000000):Spc Tryd.prog 47 [.v (.one (.ptr 0 0)),.v (.one (.p (.str s)))] [.abs (.fm ⟨m,hd,bs,p,some ln,fs,pa,sk,co,out⟩)] (.ret (.tup [])) [.abs (.fm ((yH ⟨m,hd,bs,p,some ln,fs,pa,sk,co,out⟩ s)))]:=by
  obtain⟨⟨h9,hS,⟨hfl,hff⟩,hp0⟩,hs⟩:=hneed
  simp only at h9 hfl hff hp0
  generalize hr:yH ⟨m,hd,bs,p,some ln,fs,pa,sk,co,out⟩ s=r
  unfold yH at hr
  simp only at hr
  refine spcG zl mixed Tryd.func47 (by kernel_rfl) { cfgF with keep:=some [0,1,4,5]} [QS,QO,xQ,xP,WZ,WY] (by kernel_rfl) ?_
  intro I X hI hX
  refine zi (let y3:=I.hid (α:=Str) (Fld.name (Prod.fst (yP s)));let y2:=I.hid (α:=Str) (Fld.value (Prod.fst (yP s)));let y0:=I.few (I.add (I.len (α:=Fld) fs) (I.len (α:=Fld) ([(Fld.mk y3 y2)]:List Fld))) 100000000;let y1:=I.hid (α:=(Prop)) (zO (Go.Ab.Fm.mk m hd bs p (Option.some (Go.Ab.Ln.mk (Go.Ab.Ln.b ln) (Go.Ab.Ln.cr ln) (Go.Ab.Ln.code ln))) fs pa sk co out));let y4:=I.hid (α:=Int) (Prod.snd (yP s));.br (I.seq s ([]:Str)) (.need (I.hid (α:=(Prop)) (FmB (Go.Ab.Fm.mk m hd bs p (Option.some ln) fs pa sk co out))) (.fin (.ret (.tup [])) [(.abs (.fm (I.hid (α:=Go.Ab.Fm) (yc (Go.Ab.Fm.mk m hd bs p (Option.some ln) fs pa sk co out)))))])) (.br (I.ieq (I.len (α:=Fld) fs) 16) (.need y1 (.fin (.ret (.tup [])) [(.abs (.fm (I.hid (α:=Go.Ab.Fm) (zC (Go.Ab.Fm.mk m hd bs p (Option.some (Go.Ab.Ln.mk (Go.Ab.Ln.b ln) (Go.Ab.Ln.cr ln) (Go.Ab.Ln.code ln))) fs pa sk co out) (8:Int)))))])) (.need (I.hid (α:=(Prop)) (LE.le (List.length s) 1000000)) (.br (I.bnot (I.ieq y4 0)) (.need y1 (.fin (.ret (.tup [])) [(.abs (.fm (I.hid (α:=Go.Ab.Fm) (zC (Go.Ab.Fm.mk m hd bs p (Option.some (Go.Ab.Ln.mk (Go.Ab.Ln.b ln) (Go.Ab.Ln.cr ln) (Go.Ab.Ln.code ln))) fs pa sk co out) y4))))])) (.both (.need y0 (.fin (.ret (.tup [])) [(.abs (.fm (Go.Ab.Fm.mk m hd bs p (Option.some (Go.Ab.Ln.mk (Go.Ab.Ln.b ln) (Go.Ab.Ln.cr ln) (Go.Ab.Ln.code ln))) (I.app (α:=Fld) fs ([(Fld.mk y3 y2)]:List Fld)) pa sk co out)))])) (.need y0 (.fin (.ret (.tup [])) [(.abs (.fm (Go.Ab.Fm.mk m hd bs p (Option.some (Go.Ab.Ln.mk (Go.Ab.Ln.b ln) (Go.Ab.Ln.cr ln) (Go.Ab.Ln.code ln))) (I.app (α:=Fld) fs ([(Fld.mk y3 y2)]:List Fld)) pa sk co out)))]))))))) (by kernel_rfl) ?_
  simp only [zu]
  generalize yP s=y at *
  obtain⟨⟨a,b⟩,e⟩:=y
  subst hI
  simp only [nrmA,nrmB,nrlB,reduceCtorEq,HO.abs.injEq,Gh.fm.injEq]
  (repeat' (first|refine And.intro ?_ ?_|intro _))<;>first|omega|exact True.intro|exact False.elim ‹False›|skip
  all_goals first
    |omega
    |with_reducible assumption
    |exact⟨h9,hS,⟨hfl,hff⟩,hp0⟩
    |(unfold zO;simp only;omega)
    |(simp only [List.length_singleton];omega)
    |(subst hr;simp [*,zC];done)
    |(subst hr;rw [if_pos ‹s=[]›];done)
    |(subst hr;rw [if_neg ‹¬ s=[]›,if_pos (by omega)];done)
    |(subst hr;rw [if_neg ‹¬ s=[]›,if_neg (by omega),if_pos ‹¬ e=0›];done)
    |(subst hr;rw [if_neg ‹¬ s=[]›,if_neg (by omega),if_neg (fun h=>h ‹e=0›)];done)
theorem zgj (f:Fm) (s:Str) (hneed:FmB f∧s.length≤1000000):Spc Tryd.prog 47 [.v (.one (.ptr 0 0)),.v (.one (.p (.str s)))] [.abs (.fm f)] (.ret (.tup [])) [.abs (.fm ((yH f s)))]:=by
  obtain⟨m,hd,bs,p,ln,fs,pa,sk,co,out⟩:=f
  cases ln with
  |none=>exact zet m hd bs p fs pa sk co out s hneed
  |some ln=>exact zes m hd bs p ln fs pa sk co out s hneed
def Zj (I:Alg) (args:List D) (hp:List HO):Option CT:=match args,hp with
  |[.v (.one (.ptr 0 0)),.v (.one (.p (.str s)))],[.abs (.fm f)]=>(fun(f:Fm) (s:Str)=>(some (.one ⟨I.hid (FmB f∧s.length≤1000000),(.ret (.tup [])),[.abs (.fm (I.hid ((yH f s))))]⟩):Option CT)) f s
  |_,_=>none
theorem TD:zA Tryd.prog 47 (Zj alg):=by
  intro args hp r h
  unfold Zj at h
  split at h
  · cases h;exact fun hn=>zgj _ _ hn
  · cases h
def TB:Know Tryd.prog:=⟨47,Zj,TD⟩
def TA:Know Tryd.prog:=⟨47,fun I=>zB I (Zj I),zf TD⟩
end Go.Proofs.YtknaogelmckimaaDoor
namespace Go.Proofs.YtknaogelmckimaaDoor
open Go Go.Sep Go.Ab
set_option maxRecDepth 100000
theorem zcf (s:Str):(yP s).1.name.length≤s.length∧(yP s).1.value.length≤s.length:=by
  have h:=zaQ s 58
  have ht:=QB (cutB s 58).2.1 [32,9]
  unfold yP
  repeat' split
  all_goals simp only [List.length_nil]
  all_goals omega
end Go.Proofs.YtknaogelmckimaaDoor
namespace Go.Proofs.YtknaogelmckimaaDoor
open Go Go.Sep Go.Ab
set_option maxRecDepth 100000
structure FmI (f:Fm) (i:Nat):Prop where
  bs:f.bs=xR f.mark
  ml:f.mark.length≤1000
  h0:0≤f.held
  h1:f.held<f.mark.length
  s0:0≤f.skip∧f.skip≤2
  p0:0≤f.parts∧f.parts≤12
  fl:f.fields.length≤16
  ff: ∀ x ∈ f.fields,x.name.length≤i∧x.value.length≤i
  lb: ∀ l,f.ln=some l→l.b.length≤i
  p5:f.pos=5→f.ln≠none
  on:f.out.length≤4 * i
theorem WQ {f:Fm} {i:Nat} (h:FmI f i) (c:UInt8):FmI (fmSk f c) i:=by
  have hl:=(Zm f.mark f.held.toNat c).resolve_left fun e=>by have h1:=h.h1;have h0:=h.h0;rw [e,List.length_nil] at h1;omega
  exact⟨h.bs,h.ml,Int.natCast_nonneg _,hl,h.s0,h.p0,h.fl,h.ff,h.lb,h.p5,h.on⟩
theorem zat {f:Fm} {i j:Nat} (h:FmI f i) (k:i≤j):FmI f j:=by
  obtain⟨a,b,c,d,e,f1,g,h1,h2,h3,h4⟩:=h
  exact⟨a,b,c,d,e,f1,g,fun x m=>by have:=h1 x m;omega,fun l e=>by have:=h2 l e;omega,h3,by omega⟩
theorem tY {f:Fm} {i:Nat} (h:FmI f i) {p co sk pa:Int} {o:List Evt} (ho:o.length≤4 * i) (hp:p=5→f.ln≠none) (hs:0≤sk∧sk≤2) (hpa:0≤pa∧pa≤12):FmI { f with pos:=p,code:=co,out:=o,skip:=sk,parts:=pa} i:=
  ⟨h.bs,h.ml,h.h0,h.h1,hs,hpa,h.fl,h.ff,h.lb,hp,ho⟩
theorem uo {f:Fm} {i:Nat} (h:FmI f i) (ho:f.out.length+1≤4 * i) (c:Int):FmI (zC f c) i:=
  tY h (by simp only [List.length_append,List.length_singleton];omega) (fun h=>absurd h (by decide)) h.s0 h.p0
theorem zbJ {f:Fm} {i:Nat} (h:FmI f i) (ho:f.out.length+1≤4 * i) (c:UInt8):FmI (zS f c) i:=by
  unfold zS
  repeat' split
  · exact tY h h.on (fun h=>absurd h (by decide)) h.s0 h.p0
  · exact tY h (by simp only [List.length_append,List.length_singleton];omega) (fun h=>absurd h (by decide)) h.s0 h.p0
  · exact tY h h.on (fun h=>absurd h (by decide)) h.s0 h.p0
  · exact tY h h.on (fun h=>absurd h (by decide)) h.s0 h.p0
  · exact uo h ho 5
theorem zc9 {f:Fm} {i:Nat} (h:FmI f i) (ho:f.out.length+2≤4 * i) (c:UInt8):FmI (yA f c) i:=by
  have hs:=WQ h c
  have h2:=h.s0
  unfold yA
  split
  · refine tY (f:=fmSk f c) hs ?_ h.p5 ?_ h.p0
    · split
      · simp only [List.length_append,List.length_singleton];omega
      · exact h.on
    · rw [Int.min_def]
      split<;>omega
  · refine tY (f:=fmSk f c) hs ?_ (fun h=>absurd h (by decide)) (by decide) h.p0
    repeat' split
    all_goals first|exact h.on|(simp only [List.length_append,List.length_singleton,List.length_cons,List.length_nil];omega)
theorem zdd {f:Fm} {i:Nat} (h:FmI f i) (ho:f.out.length+1≤4 * i):FmI (yc f) i:=by
  have h2:=h.p0
  unfold yc
  split
  · exact uo h ho _
  · split
    · exact uo h ho _
    · refine WQ (WQ ?_ _) _
      exact tY h (by simp only [List.length_append,List.length_singleton];omega) (fun h=>absurd h (by decide)) (by decide) (by omega)
theorem zeu {f:Fm} {i:Nat} (h:FmI f i) (ho:f.out.length+1≤4 * i) {s:Str} (hs:s.length≤i):FmI (yH f s) i:=by
  unfold yH
  split
  · exact zdd h ho
  · split
    · exact uo h ho _
    · split
      · exact uo h ho _
      · rename_i h16 _
        have hp:=zcf s
        refine⟨h.bs,h.ml,h.h0,h.h1,h.s0,h.p0,?_,fun x hx=> ?_,h.lb,h.p5,h.on⟩
        · have:=h.fl
          simp only [List.length_append,List.length_singleton];omega
        · rcases List.mem_append.1 hx with h5|h5
          · exact h.ff x h5
          · rw [List.mem_singleton.1 h5];omega
theorem zeA {f:Fm} {i:Nat} (h:FmI f i) (c:UInt8):FmI (fmF f c) (i+1):=by
  have hm:=zat h (show i≤i+1 by omega)
  have ho:f.out.length+2≤4 * (i+1):=by have:=h.on;omega
  unfold fmF
  split
  · exact zc9 hm ho c
  · split
    · exact zbJ hm (by omega) c
    · split
      · split
        · exact uo hm (by omega) 2
        · exact⟨hm.bs,hm.ml,hm.h0,hm.h1,hm.s0,hm.p0,by simp,(fun x hx=>by cases hx),(fun l e=>by cases e;simp [ln0]),(fun _ e=>by cases e),hm.on⟩
      · split
        · have hb:=zhj (lnOf f) c
          have hl:=zcC (lnOf f) c
          have hn:(lnOf f).b.length≤i:=by
            unfold lnOf
            cases e:f.ln with
            |none=>simp [ln0]
            |some l=>exact h.lb l e
          have hk:FmI { f with ln:=some (lnF (lnOf f) c).1} (i+1):=⟨hm.bs,hm.ml,hm.h0,hm.h1,hm.s0,hm.p0,hm.fl,hm.ff,(fun l e=>by cases e;omega),(fun _ e=>by cases e),hm.on⟩
          split
          · exact uo hk (by simp only;omega) _
          · split
            · exact zeu hk (by simp only;omega) (by omega)
            · exact hk
        · exact hm
theorem zel (k:Int) (hneed:False):Spc Tryd.prog 46 [.v (.one (.p (.val (.pointer none)))),.v (.one (.p (.int .u8 k)))] [] (.ret (.tup [(.one (.p (.str ([])))),(.one (.p (.bool false))),(.one (.p (.int .i64 0)))])) []:=hneed.elim
def sZ (I:Alg) (args:List D) (hp:List HO):Option CT:=match args,hp with
  |[.v (.one (.p (.val (.pointer none)))),.v (.one (.p (.int .u8 k)))],[]=>(fun(k:Int)=>(some (.one ⟨I.hid (False),(.ret (.tup [(.one (.p (.str (I.hid ([]))))),(.one (.p (.bool false))),(.one (.p (.int .i64 0)))])),[]⟩):Option CT)) k
  |_,_=>none
theorem Wy:zA Tryd.prog 46 (sZ alg):=by
  intro args hp r h
  unfold sZ at h
  split at h
  · cases h;exact fun hn=>zel _ hn
  · cases h
def Wx:Know Tryd.prog:=⟨46,sZ,Wy⟩
def Wv:Know Tryd.prog:=⟨46,fun I=>zB I (sZ I),zf Wy⟩
def fmN (f:Fm):Prop:=∃ i:Nat,i≤1000000∧FmI f i
theorem zgo (m:Str) (hd:Int) (bs:List Int) (p:Int) (fs:List Fld) (pa sk co:Int) (out:List Evt) (k:Int) (hneed:fmN ⟨m,hd,bs,p,none,fs,pa,sk,co,out⟩∧0≤k∧k≤255):Spc Tryd.prog 24 [.v (.one (.ptr 0 0)),.v (.one (.p (.int .u8 k)))] [.abs (.fm ⟨m,hd,bs,p,none,fs,pa,sk,co,out⟩)] (.ret (.tup [])) [.abs (.fm ((fmF ⟨m,hd,bs,p,none,fs,pa,sk,co,out⟩ (UInt8.ofNat k.toNat))))]:=by
  obtain⟨⟨i,hi,hI0⟩,hk0,hk1⟩:=hneed
  obtain⟨g1,g2,g3,g4,g5,g6,g7,g8,g9,g10,g11⟩:=hI0
  simp only at g1 g2 g3 g4 g5 g6 g7 g8 g9 g10 g11
  have g2:=Nat.le_trans g2 (show 1000≤1000000 by decide)
  have hfd:FdOk fs:=⟨by omega,fun x hx=>by have:=g8 x hx;omega⟩
  have h10:=u8k hk0 hk1 10 (by decide)
  have h10:(UInt8.ofNat k.toNat=10)=(k=10):=h10
  generalize hr:fmF ⟨m,hd,bs,p,none,fs,pa,sk,co,out⟩ (UInt8.ofNat k.toNat)=r
  unfold fmF lnOf at hr
  simp only [h10] at hr
  have hll:=trivial
  refine spcG zl mixed Tryd.func24 (by kernel_rfl) { cfgF with keep:=some [0,1,4,5,6,10,11,17]} [zaf,zae,UI,UH,Wx,Wv,xQ,xP,XC,XB,WV,WU,TB,TA] (by kernel_rfl) ?_
  intro I X hI hX
  refine zi (let y0:=I.hid (α:=(Prop)) (And (zO (Go.Ab.Fm.mk m hd bs p (Option.none) fs pa sk co out)) (And (LE.le (0:Int) k) (LE.le k (255:Int))));let y1:=I.hid (α:=Go.Ab.Fm) (zS (Go.Ab.Fm.mk m hd bs p (Option.none) fs pa sk co out) (UInt8.ofNat (Int.toNat k)));let y2:=I.hid (α:=(Prop)) (And (fm9 (Go.Ab.Fm.mk m hd bs p (Option.none) fs pa sk co out)) (And (FmS (Go.Ab.Fm.mk m hd bs p (Option.none) fs pa sk co out)) (And (LE.le (0:Int) k) (LE.le k (255:Int)))));let y3:=I.hid (α:=Go.Ab.Fm) (yA (Go.Ab.Fm.mk m hd bs p (Option.none) fs pa sk co out) (UInt8.ofNat (Int.toNat k)));let y4:=I.hid (α:=(Prop)) (zO (Go.Ab.Fm.mk m hd bs p (Option.none) fs pa sk co out));.br (I.ieq p 0) (.need y2 (.fin (.ret (.tup [])) [(.abs (.fm y3))])) (.br (I.ieq p 6) (.need y2 (.fin (.ret (.tup [])) [(.abs (.fm y3))])) (.br (I.ieq p 1) (.need y0 (.fin (.ret (.tup [])) [(.abs (.fm y1))])) (.br (I.ieq p 2) (.need y0 (.fin (.ret (.tup [])) [(.abs (.fm y1))])) (.br (I.ieq p 3) (.need y0 (.fin (.ret (.tup [])) [(.abs (.fm y1))])) (.br (I.ieq p 4) (.br (I.bnot (I.ieq k 10)) (.need y4 (.fin (.ret (.tup [])) [(.abs (.fm (I.hid (α:=Go.Ab.Fm) (zC (Go.Ab.Fm.mk m hd bs p (Option.none) fs pa sk co out) (2:Int)))))])) (.need (I.hid (α:=(Prop)) True) (.fin (.ret (.tup [])) [(.abs (.fm (Go.Ab.Fm.mk m hd bs (5:Int) (Option.some (Go.Ab.Ln.mk (I.hid (α:=Str) ([]:Str)) Bool.false (0:Int))) ([]:List Fld) pa sk co out)))]))) (.br (I.ieq p 5) (.need (I.hid (α:=(Prop)) False) (.br (I.bnot (I.ieq 0 0)) (.need y4 (.fin (.ret (.tup [])) [(.abs (.fm (I.hid (α:=Go.Ab.Fm) (zC (Go.Ab.Fm.mk m hd bs p (Option.none) fs pa sk co out) (0:Int)))))])) (.br Bool.false (.need (I.hid (α:=(Prop)) (And (FmB (Go.Ab.Fm.mk m hd bs p (Option.none) fs pa sk co out)) (LE.le (List.length (I.hid (α:=Str) ([]:Str))) 1000000))) (.fin (.ret (.tup [])) [(.abs (.fm (I.hid (α:=Go.Ab.Fm) (yH (Go.Ab.Fm.mk m hd bs p (Option.none) fs pa sk co out) (I.hid (α:=Str) ([]:Str))))))])) (.fin (.ret (.tup [])) [(.abs (.fm (Go.Ab.Fm.mk m hd bs p (Option.none) fs pa sk co out)))])))) (.fin (.ret (.tup [])) [(.abs (.fm (Go.Ab.Fm.mk m hd bs p (Option.none) fs pa sk co out)))])))))))) (by kernel_rfl) ?_
  simp only [zu]
  subst hI
  simp only [nrmA,nrmB,nrlB,reduceCtorEq,HO.abs.injEq,Gh.fm.injEq]
  (repeat' (first|refine And.intro ?_ ?_|intro _))<;>first|omega|exact True.intro|exact False.elim ‹False›|skip
  all_goals first
    |omega
    |with_reducible assumption
    |(refine⟨by simp only;omega,⟨g1,g2,g3,.inr g4,g5⟩,?_⟩;done)
    |exact⟨g1,g2,g3,.inr g4,g5⟩
    |exact⟨by simp only;omega,⟨g1,g2,g3,.inr g4,g5⟩,hfd,g6⟩
    |exact Nat.le_trans hll (by omega)
    |(unfold zO;simp only;omega)
    |(unfold fm9;simp only;omega)
    |(exact absurd rfl (g10 ‹_›))
    |(subst hr;simp [*,ln0];done)
theorem zgn (m:Str) (hd:Int) (bs:List Int) (p:Int) (ln:Ln) (fs:List Fld) (pa sk co:Int) (out:List Evt) (k:Int) (hneed:fmN ⟨m,hd,bs,p,some ln,fs,pa,sk,co,out⟩∧0≤k∧k≤255):Spc Tryd.prog 24 [.v (.one (.ptr 0 0)),.v (.one (.p (.int .u8 k)))] [.abs (.fm ⟨m,hd,bs,p,some ln,fs,pa,sk,co,out⟩)] (.ret (.tup [])) [.abs (.fm ((fmF ⟨m,hd,bs,p,some ln,fs,pa,sk,co,out⟩ (UInt8.ofNat k.toNat))))]:=by
  obtain⟨⟨i,hi,hI0⟩,hk0,hk1⟩:=hneed
  obtain⟨g1,g2,g3,g4,g5,g6,g7,g8,g9,g10,g11⟩:=hI0
  simp only at g1 g2 g3 g4 g5 g6 g7 g8 g9 g10 g11
  have g2:=Nat.le_trans g2 (show 1000≤1000000 by decide)
  have hfd:FdOk fs:=⟨by omega,fun x hx=>by have:=g8 x hx;omega⟩
  have h10:=u8k hk0 hk1 10 (by decide)
  have h10:(UInt8.ofNat k.toNat=10)=(k=10):=h10
  generalize hr:fmF ⟨m,hd,bs,p,some ln,fs,pa,sk,co,out⟩ (UInt8.ofNat k.toNat)=r
  unfold fmF lnOf at hr
  simp only [h10] at hr
  have hll:=zcC ln (UInt8.ofNat k.toNat)
  have hlb:=g9 ln rfl
  refine spcG zl mixed Tryd.func24 (by kernel_rfl) { cfgF with keep:=some [0,1,4,5,6,10,11,17]} [zaf,zae,UI,UH,Wx,Wv,xQ,xP,XC,XB,WV,WU,TB,TA] (by kernel_rfl) ?_
  intro I X hI hX
  refine zi (let y0:=I.hid (α:=Int) (Go.Ab.Ln.code (Prod.fst (lnF (Go.Ab.Ln.mk (Go.Ab.Ln.b ln) (Go.Ab.Ln.cr ln) (Go.Ab.Ln.code ln)) (UInt8.ofNat (Int.toNat k)))));let y1:=I.hid (α:=Bool) (Go.Ab.Ln.cr (Prod.fst (lnF (Go.Ab.Ln.mk (Go.Ab.Ln.b ln) (Go.Ab.Ln.cr ln) (Go.Ab.Ln.code ln)) (UInt8.ofNat (Int.toNat k)))));let y2:=I.hid (α:=Str) (Go.Ab.Ln.b (Prod.fst (lnF (Go.Ab.Ln.mk (Go.Ab.Ln.b ln) (Go.Ab.Ln.cr ln) (Go.Ab.Ln.code ln)) (UInt8.ofNat (Int.toNat k)))));let y3:=I.hid (α:=(Prop)) (And (zO (Go.Ab.Fm.mk m hd bs p (Option.some (Go.Ab.Ln.mk (Go.Ab.Ln.b ln) (Go.Ab.Ln.cr ln) (Go.Ab.Ln.code ln))) fs pa sk co out)) (And (LE.le (0:Int) k) (LE.le k (255:Int))));let y4:=I.hid (α:=Go.Ab.Fm) (zS (Go.Ab.Fm.mk m hd bs p (Option.some (Go.Ab.Ln.mk (Go.Ab.Ln.b ln) (Go.Ab.Ln.cr ln) (Go.Ab.Ln.code ln))) fs pa sk co out) (UInt8.ofNat (Int.toNat k)));let y5:=I.hid (α:=(Prop)) (And (fm9 (Go.Ab.Fm.mk m hd bs p (Option.some (Go.Ab.Ln.mk (Go.Ab.Ln.b ln) (Go.Ab.Ln.cr ln) (Go.Ab.Ln.code ln))) fs pa sk co out)) (And (FmS (Go.Ab.Fm.mk m hd bs p (Option.some (Go.Ab.Ln.mk (Go.Ab.Ln.b ln) (Go.Ab.Ln.cr ln) (Go.Ab.Ln.code ln))) fs pa sk co out)) (And (LE.le (0:Int) k) (LE.le k (255:Int)))));let y6:=I.hid (α:=Go.Ab.Fm) (yA (Go.Ab.Fm.mk m hd bs p (Option.some (Go.Ab.Ln.mk (Go.Ab.Ln.b ln) (Go.Ab.Ln.cr ln) (Go.Ab.Ln.code ln))) fs pa sk co out) (UInt8.ofNat (Int.toNat k)));let y7:=I.hid (α:=Int) (Prod.snd (Prod.snd (Prod.snd (lnF (Go.Ab.Ln.mk (Go.Ab.Ln.b ln) (Go.Ab.Ln.cr ln) (Go.Ab.Ln.code ln)) (UInt8.ofNat (Int.toNat k))))));let y8:=I.hid (α:=Str) (Prod.fst (Prod.snd (lnF (Go.Ab.Ln.mk (Go.Ab.Ln.b ln) (Go.Ab.Ln.cr ln) (Go.Ab.Ln.code ln)) (UInt8.ofNat (Int.toNat k)))));.br (I.ieq p 0) (.need y5 (.fin (.ret (.tup [])) [(.abs (.fm y6))])) (.br (I.ieq p 6) (.need y5 (.fin (.ret (.tup [])) [(.abs (.fm y6))])) (.br (I.ieq p 1) (.need y3 (.fin (.ret (.tup [])) [(.abs (.fm y4))])) (.br (I.ieq p 2) (.need y3 (.fin (.ret (.tup [])) [(.abs (.fm y4))])) (.br (I.ieq p 3) (.need y3 (.fin (.ret (.tup [])) [(.abs (.fm y4))])) (.br (I.ieq p 4) (.br (I.bnot (I.ieq k 10)) (.need (I.hid (α:=(Prop)) (zO (Go.Ab.Fm.mk m hd bs p (Option.some (Go.Ab.Ln.mk (Go.Ab.Ln.b ln) (Go.Ab.Ln.cr ln) (Go.Ab.Ln.code ln))) fs pa sk co out))) (.fin (.ret (.tup [])) [(.abs (.fm (I.hid (α:=Go.Ab.Fm) (zC (Go.Ab.Fm.mk m hd bs p (Option.some (Go.Ab.Ln.mk (Go.Ab.Ln.b ln) (Go.Ab.Ln.cr ln) (Go.Ab.Ln.code ln))) fs pa sk co out) (2:Int)))))])) (.need (I.hid (α:=(Prop)) True) (.fin (.ret (.tup [])) [(.abs (.fm (Go.Ab.Fm.mk m hd bs (5:Int) (Option.some (Go.Ab.Ln.mk (I.hid (α:=Str) ([]:Str)) Bool.false (0:Int))) ([]:List Fld) pa sk co out)))]))) (.br (I.ieq p 5) (.need (I.hid (α:=(Prop)) (And (LE.le (0:Int) k) (And (LE.le k (255:Int)) (LE.le (List.length (Go.Ab.Ln.b ln)) 1000000)))) (.br (I.bnot (I.ieq y7 0)) (.need (I.hid (α:=(Prop)) (zO (Go.Ab.Fm.mk m hd bs p (Option.some (Go.Ab.Ln.mk y2 y1 y0)) fs pa sk co out))) (.fin (.ret (.tup [])) [(.abs (.fm (I.hid (α:=Go.Ab.Fm) (zC (Go.Ab.Fm.mk m hd bs p (Option.some (Go.Ab.Ln.mk y2 y1 y0)) fs pa sk co out) y7))))])) (.br (I.hid (α:=Bool) (Prod.fst (Prod.snd (Prod.snd (lnF (Go.Ab.Ln.mk (Go.Ab.Ln.b ln) (Go.Ab.Ln.cr ln) (Go.Ab.Ln.code ln)) (UInt8.ofNat (Int.toNat k))))))) (.need (I.hid (α:=(Prop)) (And (FmB (Go.Ab.Fm.mk m hd bs p (Option.some (Go.Ab.Ln.mk y2 y1 y0)) fs pa sk co out)) (LE.le (List.length y8) 1000000))) (.fin (.ret (.tup [])) [(.abs (.fm (I.hid (α:=Go.Ab.Fm) (yH (Go.Ab.Fm.mk m hd bs p (Option.some (Go.Ab.Ln.mk y2 y1 y0)) fs pa sk co out) y8))))])) (.fin (.ret (.tup [])) [(.abs (.fm (Go.Ab.Fm.mk m hd bs p (Option.some (Go.Ab.Ln.mk y2 y1 y0)) fs pa sk co out)))])))) (.fin (.ret (.tup [])) [(.abs (.fm (Go.Ab.Fm.mk m hd bs p (Option.some (Go.Ab.Ln.mk (Go.Ab.Ln.b ln) (Go.Ab.Ln.cr ln) (Go.Ab.Ln.code ln))) fs pa sk co out)))])))))))) (by kernel_rfl) ?_
  simp only [zu]
  subst hI
  simp only [nrmA,nrmB,nrlB,reduceCtorEq,HO.abs.injEq,Gh.fm.injEq]
  (repeat' (first|refine And.intro ?_ ?_|intro _))<;>first|omega|exact True.intro|exact False.elim ‹False›|skip
  all_goals first
    |omega
    |with_reducible assumption
    |(refine⟨by simp only;omega,⟨g1,g2,g3,.inr g4,g5⟩,?_⟩;done)
    |exact⟨g1,g2,g3,.inr g4,g5⟩
    |exact⟨by simp only;omega,⟨g1,g2,g3,.inr g4,g5⟩,hfd,g6⟩
    |exact Nat.le_trans hll (by omega)
    |(unfold zO;simp only;omega)
    |(unfold fm9;simp only;omega)
    |(exact absurd rfl (g10 ‹_›))
    |(subst hr;simp [*,ln0];done)
theorem zht (f:Fm) (k:Int) (hneed:fmN f∧0≤k∧k≤255):Spc Tryd.prog 24 [.v (.one (.ptr 0 0)),.v (.one (.p (.int .u8 k)))] [.abs (.fm f)] (.ret (.tup [])) [.abs (.fm ((fmF f (UInt8.ofNat k.toNat))))]:=by
  obtain⟨m,hd,bs,p,ln,fs,pa,sk,co,out⟩:=f
  cases ln with
  |none=>exact zgo m hd bs p fs pa sk co out k hneed
  |some ln=>exact zgn m hd bs p ln fs pa sk co out k hneed
def YL (I:Alg) (args:List D) (hp:List HO):Option CT:=match args,hp with
  |[.v (.one (.ptr 0 0)),.v (.one (.p (.int .u8 k)))],[.abs (.fm f)]=>(fun(f:Fm) (k:Int)=>(some (.one ⟨I.hid (fmN f∧0≤k∧k≤255),(.ret (.tup [])),[.abs (.fm (I.hid ((fmF f (UInt8.ofNat k.toNat)))))]⟩):Option CT)) f k
  |_,_=>none
theorem zaw:zA Tryd.prog 24 (YL alg):=by
  intro args hp r h
  unfold YL at h
  split at h
  · cases h;exact fun hn=>zht _ _ hn
  · cases h
def YK:Know Tryd.prog:=⟨24,YL,zaw⟩
def YJ:Know Tryd.prog:=⟨24,fun I=>zB I (YL I),zf zaw⟩
end Go.Proofs.YtknaogelmckimaaDoor
namespace Go.Proofs.YtknaogelmckimaaDoor
open Go Go.Sep Go.Ab
set_option maxRecDepth 100000
def zG (l:List Evt):Nat:=(l.map fun e=>e.bytes.length).sum
theorem yR (a b:List Evt):zG (a++b)=zG a+zG b:=by simp [zG]
theorem vZ (e:Evt):zG [e]=e.bytes.length:=by simp [zG]
theorem zcD (o:List Evt) (e:Evt):zG (xK o e)≤zG o+e.bytes.length:=by
  rcases List.eq_nil_or_concat o with rfl|⟨z,x,rfl⟩
  · rw [wP,vZ];omega
  · rw [List.concat_eq_append,zV]
    split
    · rw [yR,yR,vZ,vZ];simp only [evB,List.length_append];omega
    · rw [yR _ [e],vZ e];exact Nat.le_refl _
theorem rf (l:List Evt) (e:Evt):zH (l++[e])=xK (zH l) e:=by simp [zH,List.foldl_append]
theorem Xm (l:List Evt):zG (zH l)≤zG l:=by
  suffices ∀ l o:List Evt,zG (l.foldl xK o)≤zG o+zG l by have:=this l [];simpa [zH,zG] using this
  intro l
  induction l with
  |nil=>intro o;simp [zG]
  | cons e r ih=>
    intro o
    have h1:=ih (xK o e)
    have h2:=zcD o e
    have h3:zG (e::r)=e.bytes.length+zG r:=by simp [zG]
    rw [List.foldl_cons];omega
theorem zcE (o:List Evt) (e:Evt):(xK o e).length≤o.length+1:=by
  rcases List.eq_nil_or_concat o with rfl|⟨z,x,rfl⟩
  · simp [wP]
  · rw [List.concat_eq_append,zV]
    split<;>simp
theorem zbL (l:List Evt) (i:Nat):zG (l.take i)≤zG l:=by
  have:=yR (l.take i) (l.drop i)
  rw [List.take_append_drop] at this
  omega
theorem XH {l:List Evt} {e:Evt} (h:e ∈ l):e.bytes.length≤zG l:=by
  obtain⟨a,b,rfl⟩:=List.append_of_mem h
  have:=yR a (e::b)
  have h3:zG (e::b)=e.bytes.length+zG b:=by simp [zG]
  omega
theorem Za (l:List Evt):(zH l).length≤l.length:=by
  suffices ∀ l o:List Evt,(l.foldl xK o).length≤o.length+l.length by have:=this l [];simpa [zH] using this
  intro l
  induction l with
  |nil=>intro o;simp
  | cons e r ih=>
    intro o
    have h1:=ih (xK o e)
    have h2:=zcE o e
    rw [List.foldl_cons,List.length_cons];omega
theorem zfD (l:List Evt) (hneed:zG l≤1000000∧l.length≤10000000):Spc Tryd.prog 11 [.v (.one (.row 0))] [.row .evt 63 l] (.ret (.v (.one (.row 1)))) [.row .evt 63 l,.row .evt 63 ((zH l))]:=by
  obtain⟨hn1,hn2⟩:=hneed
  refine spcG zl mixed Tryd.func11 (by kernel_rfl) { nr:=[3],keep:=some [0,2,3,5,6,7,8,9,10]} [] (by kernel_rfl) ?_
  intro I X hI hX
  refine zi (.code 0 [1,1,0,1,0] ⟨[(10,(.v (.one (.p (.int .i64 0))))),(9,(.v (.one (.p (.int .i64 (I.len (α:=Go.Ab.Evt) l)))))),(8,(.v (.one (.row 0)))),(3,(.v (.one (.row 1)))),(2,(.v (.one .nilS))),(0,(.v (.one (.row 0))))],[(.row .evt 63 l),(.row .evt 63 ([]:List Go.Ab.Evt))],52,none⟩) (by kernel_rfl) ?_
  simp only [zu]
  refine zL hI zl mixed [] hX [0,3,8,9,10] (fun(g:Nat × List Evt)=>match g with|(i,o)=>i≤l.length∧o=zH (l.take i)) (fun(g:Nat × List Evt)=>match g with|(i,o)=>⟨[(0,.v (.one (.row 0))),(3,.v (.one (.row 1))),(8,.v (.one (.row 0))),(9,.v (.one (.p (.int .i64 ((I.len (α:=Evt) l)))))),(10,.v (.one (.p (.int .i64 i))))],[.row .evt 63 l,.row .evt 63 o],52,none⟩) (fun(g:Nat × List Evt)=>match g with|(i,o)=>l.length - i) (0,[]) (by kernel_rfl) (by kernel_rfl) ?_ ?_
  · exact⟨Nat.zero_le _,rfl⟩
  rintro⟨i,o⟩ ⟨h1,h2⟩ A hA
  simp only at hA h1 h2
  refine zi (let y0:=I.get (α:=Go.Ab.Evt) l (Go.Ab.Evt.mk (0:Int) (Hd.mk ([]:Str) ([]:Str) (0:Int) ([]:List Fld) (0:Int)) ([]:Str) (Go.Ab.Prt.mk ([]:Str) ([]:Str) ([]:Str) ([]:Str)) (0:Int)) (Nat.cast i);let y1:=I.few (I.add (I.len (α:=Go.Ab.Evt) o) (I.len (α:=Go.Ab.Evt) ([(Go.Ab.Evt.mk (Go.Ab.Evt.kind y0) (Hd.mk (Hd.method (Go.Ab.Evt.head y0)) (Hd.target (Go.Ab.Evt.head y0)) (Hd.minor (Go.Ab.Evt.head y0)) (Hd.fields (Go.Ab.Evt.head y0)) (Hd.length (Go.Ab.Evt.head y0))) (Go.Ab.Evt.bytes y0) (Go.Ab.Prt.mk (Go.Ab.Prt.name (Go.Ab.Evt.part y0)) (Go.Ab.Prt.file (Go.Ab.Evt.part y0)) (Go.Ab.Prt.type (Go.Ab.Evt.part y0)) (Go.Ab.Prt.bytes (Go.Ab.Evt.part y0))) (Go.Ab.Evt.code y0))]:List Go.Ab.Evt))) 100000000;let y2:HO:=.row .evt 63 (I.app (α:=Go.Ab.Evt) o ([(Go.Ab.Evt.mk (Go.Ab.Evt.kind y0) (Hd.mk (Hd.method (Go.Ab.Evt.head y0)) (Hd.target (Go.Ab.Evt.head y0)) (Hd.minor (Go.Ab.Evt.head y0)) (Hd.fields (Go.Ab.Evt.head y0)) (Hd.length (Go.Ab.Evt.head y0))) (Go.Ab.Evt.bytes y0) (Go.Ab.Prt.mk (Go.Ab.Prt.name (Go.Ab.Evt.part y0)) (Go.Ab.Prt.file (Go.Ab.Evt.part y0)) (Go.Ab.Prt.type (Go.Ab.Evt.part y0)) (Go.Ab.Prt.bytes (Go.Ab.Evt.part y0))) (Go.Ab.Evt.code y0))]:List Go.Ab.Evt));let y6:=I.sub (I.len (α:=Go.Ab.Evt) o) 1;let y3:=I.get (α:=Go.Ab.Evt) o (Go.Ab.Evt.mk (0:Int) (Hd.mk ([]:Str) ([]:Str) (0:Int) ([]:List Fld) (0:Int)) ([]:Str) (Go.Ab.Prt.mk ([]:Str) ([]:Str) ([]:Str) ([]:Str)) (0:Int)) y6;let y4:=I.inb y6 (I.len (α:=Go.Ab.Evt) o);let y5:=I.inr Go.IntKind.i64 (I.add (Nat.cast i) 1);let y7:=I.inb (Nat.cast i) (I.len (α:=Go.Ab.Evt) l);let y8:=I.len (α:=UInt8) (Go.Ab.Evt.bytes y3);.br (I.ilt (Nat.cast i) (I.len (α:=Go.Ab.Evt) l)) (.need y7 (.need y7 (.need (I.inr Go.IntKind.i64 y6) (.br (I.ieq (Go.Ab.Evt.kind y0) 2) (.br (I.ile 0 y6) (.need y4 (.need y4 (.br (I.ieq (Go.Ab.Evt.kind y3) 2) (.need y4 (.need y4 (.need (I.few y8 140737488355328) (.need (I.few (I.add y8 (I.len (α:=UInt8) (Go.Ab.Evt.bytes y0))) 140737488355328) (.need y4 (.need y4 (.need y5 (.need (A ⟨[(0,(.v (.one (.row 0)))),(3,(.v (.one (.row 1)))),(8,(.v (.one (.row 0)))),(9,(.v (.one (.p (.int .i64 (I.len (α:=Go.Ab.Evt) l)))))),(10,(.v (.one (.p (.int .i64 (I.add (Nat.cast i) 1))))))],[(.row .evt 63 l),(.row .evt 63 (I.set (α:=Go.Ab.Evt) o y6 (Go.Ab.Evt.mk (2:Int) (Hd.mk ([]:Str) ([]:Str) (0:Int) ([]:List Fld) (0:Int)) (I.app (α:=UInt8) (Go.Ab.Evt.bytes y3) (Go.Ab.Evt.bytes y0)) (Go.Ab.Prt.mk ([]:Str) ([]:Str) ([]:Str) ([]:Str)) (0:Int))))],52,none⟩) .qed)))))))) (.need y1 (.need y5 (.need (A ⟨[(0,(.v (.one (.row 0)))),(3,(.v (.one (.row 1)))),(8,(.v (.one (.row 0)))),(9,(.v (.one (.p (.int .i64 (I.len (α:=Go.Ab.Evt) l)))))),(10,(.v (.one (.p (.int .i64 (I.add (Nat.cast i) 1))))))],[(.row .evt 63 l),y2],52,none⟩) .qed)))))) (.need y1 (.need y5 (.need (A ⟨[(0,(.v (.one (.row 0)))),(3,(.v (.one (.row 1)))),(8,(.v (.one (.row 0)))),(9,(.v (.one (.p (.int .i64 (I.len (α:=Go.Ab.Evt) l)))))),(10,(.v (.one (.p (.int .i64 (I.add (Nat.cast i) 1))))))],[(.row .evt 63 l),y2],52,none⟩) .qed)))) (.need y1 (.need y5 (.need (A ⟨[(0,(.v (.one (.row 0)))),(3,(.v (.one (.row 1)))),(8,(.v (.one (.row 0)))),(9,(.v (.one (.p (.int .i64 (I.len (α:=Go.Ab.Evt) l)))))),(10,(.v (.one (.p (.int .i64 (I.add (Nat.cast i) 1))))))],[(.row .evt 63 l),y2],52,none⟩) .qed))))))) (.fin (.ret (.v (.one (.row 1)))) [(.row .evt 63 l),(.row .evt 63 o)])) (by kernel_rfl) ?_
  simp only [zu]
  subst hI
  simp only [nrmA,nrmB,nrlB,reduceCtorEq]
  have hl1:=Za (l.take i)
  have hl2:(l.take i).length≤i:=by rw [List.length_take];omega
  have hl3:=Xm (l.take i)
  have hl4: ∀ x ∈ zH (l.take i),x.bytes.length≤1000000:=fun x h=>by
    have a:=XH h
    have b:=zbL l i
    omega
  have hw: ¬ i<l.length→o=zH l:=fun h=>by rw [h2,List.take_of_length_le (by omega)]
  have hy:i<l.length→zH (l.take (i+1))=xK o (l.getD i ⟨0,⟨[],[],0,[],0⟩,[],⟨[],[],[],[]⟩,0⟩):=fun h=>by rw [List.take_succ_eq_append_getElem h,rf,h2];simp [h]
  have hl5:i<l.length→(l.getD i ⟨0,⟨[],[],0,[],0⟩,[],⟨[],[],[],[]⟩,0⟩).bytes.length≤1000000:=fun h=>by
    have:l.getD i ⟨0,⟨[],[],0,[],0⟩,[],⟨[],[],[],[]⟩,0⟩ ∈ l:=by simp [h]
    have:=XH this
    omega
  rw [← h2] at hl1 hl4
  refine⟨fun c=> ?_,fun c=>hw (by omega)⟩
  have hlt:i<l.length:=by omega
  have hy:=hy hlt
  have hl5:=hl5 hlt
  generalize l.getD i ⟨0,⟨[],[],0,[],0⟩,[],⟨[],[],[],[]⟩,0⟩=e at *
  have hgo: ∀ r:List Evt,r=xK o e→(fun p:Nat × List Evt=>p.1≤l.length∧p.2=zH (l.take p.1)) (i+1,r):=fun r h=>⟨by simp only;omega,by simp only;rw [hy,h]⟩
  rcases List.eq_nil_or_concat o with he|⟨z,x,he⟩
  · subst he
    rw [wP] at hgo
    simp only [List.length_cons,List.length_nil]
    (repeat' (first|refine And.intro ?_ ?_|intro _))<;>first|omega|exact True.intro|exact False.elim ‹False›|skip
    all_goals first
      |omega
      |exact hA (i+1,_) (hgo _ rfl) (by simp only;omega)
  · rw [List.concat_eq_append] at he
    subst he
    have hx:=hl4 x (List.mem_append_right _ (List.mem_singleton.2 rfl))
    have hz:(((z++[x]).length:Int) - 1).toNat=z.length:=by rw [List.length_append,List.length_singleton];omega
    have hg: ∀ d,(z++[x]).getD z.length d=x:=fun d=>by simp
    have hs: ∀ d,(z++[x]).set z.length d=z++[d]:=fun d=>by simp
    rw [zV] at hgo
    rw [List.length_append,List.length_singleton] at hl1
    simp only [hz,hg,hs]
    simp only [List.length_append,List.length_cons,List.length_nil]
    clear hz hg hs
    (repeat' (first|refine And.intro ?_ ?_|intro _))<;>first|omega|exact True.intro|exact False.elim ‹False›|skip
    all_goals first
      |omega
      |(rw [if_pos ⟨‹e.kind=2›,‹x.kind=2›⟩] at hgo;exact hA (i+1,_) (hgo _ rfl) (by simp only;omega))
      |(rw [if_neg (fun h=>‹¬ e.kind=2› h.1)] at hgo;exact hA (i+1,_) (hgo _ rfl) (by simp only;omega))
      |(rw [if_neg (fun h=>‹¬ x.kind=2› h.2)] at hgo;exact hA (i+1,_) (hgo _ rfl) (by simp only;omega))
def qK (I:Alg) (args:List D) (hp:List HO):Option CT:=match args,hp with
  |[.v (.one (.row 0))],[.row .evt 63 l]=>(fun(l:List Evt)=>(some (.one ⟨I.hid (zG l≤1000000∧l.length≤10000000),(.ret (.v (.one (.row 1)))),[.row .evt 63 l,.row .evt 63 (I.hid ((zH l)))]⟩):Option CT)) l
  |_,_=>none
theorem Uu:zA Tryd.prog 11 (qK alg):=by
  intro args hp r h
  unfold qK at h
  split at h
  · cases h;exact fun hn=>zfD _ hn
  · cases h
def wJ:Know Tryd.prog:=⟨11,qK,Uu⟩
def wI:Know Tryd.prog:=⟨11,fun I=>zB I (qK I),zf Uu⟩
end Go.Proofs.YtknaogelmckimaaDoor
namespace Go.Proofs.YtknaogelmckimaaDoor
open Go Go.Sep Go.Ab
set_option maxRecDepth 100000
theorem TR {m:Str} {n:Nat} (h:m=[]∨n<m.length) (c:UInt8):(yh m n c).1.length+(yh m n c).2.1≤n+1:=by
  unfold yh
  by_cases h0:m=[]
  · rw [if_pos h0];simp only [List.length_singleton];omega
  · rw [if_neg h0]
    have hn:n<m.length:=h.resolve_left h0
    have hf:=(P.RU m c P.take_len n n (Nat.le_refl _) (by omega)).le
    unfold P.feed
    simp only
    repeat' split
    all_goals simp only [List.length_append,List.length_singleton,List.length_take]
    all_goals omega
theorem zff (f:Fm) {i:Nat} (h:FmI f i) (c:UInt8):(fmSk f c).held.toNat≤f.held.toNat+1:=by
  have:=TR (m:=f.mark) (n:=f.held.toNat) (.inr (by have:=h.h0;have:=h.h1;omega)) c
  show(((yh f.mark f.held.toNat c).2.1:Nat):Int).toNat≤_
  rw [Int.toNat_natCast];omega
theorem wU (o:List Evt) (e:Evt) (h:e.bytes=[]):zG (o++[e])=zG o:=by
  rw [yR,vZ,h];rfl
theorem RQ {f:Fm} {i:Nat} (h:FmI f i):zG (yc f).out+(yc f).held.toNat≤zG f.out+f.held.toNat+2:=by
  have h2:=h.p0
  unfold yc
  split
  · show zG (f.out++[evF _])+_≤_
    rw [wU _ _ rfl];simp only [zC];omega
  · split
    · show zG (f.out++[evF _])+_≤_
      rw [wU _ _ rfl];simp only [zC];omega
    · have hI:FmI { f with parts:=f.parts+1,pos:=6,out:=[],skip:=2} i:=⟨h.bs,h.ml,h.h0,h.h1,(show(0:Int)≤2∧(2:Int)≤2 by decide),by simp only;omega,h.fl,h.ff,h.lb,(fun e=>absurd (show(6:Int)=5 from e) (by decide)),Nat.zero_le _⟩
      have a:=zff _ hI 13
      have b:=zff _ (WQ hI 13) 10
      show zG (f.out++[evP _])+(fmSk (fmSk { f with parts:=f.parts+1,pos:=6,out:=[],skip:=2} 13) 10).held.toNat≤_
      rw [wU _ _ rfl]
      simp only at a
      omega
theorem zbE {f:Fm} {i:Nat} (h:FmI f i) (s:Str):zG (yH f s).out+(yH f s).held.toNat≤zG f.out+f.held.toNat+2:=by
  unfold yH
  split
  · exact RQ h
  · split
    · show zG (f.out++[evF _])+_≤_
      rw [wU _ _ rfl];simp only [zC];omega
    · split
      · show zG (f.out++[evF _])+_≤_
        rw [wU _ _ rfl];simp only [zC];omega
      · simp only;omega
theorem RH {f:Fm} {i:Nat} (h:FmI f i) (c:UInt8):zG (fmF f c).out+(fmF f c).held.toNat≤zG f.out+f.held.toNat+2:=by
  have hfail: ∀ (f:Fm) (c:Int),zG (zC f c).out=zG f.out∧(zC f c).held=f.held:=fun f c=>⟨wU _ _ rfl,rfl⟩
  unfold fmF
  split
  · have hp:=TR (m:=f.mark) (n:=f.held.toNat) (.inr (by have:=h.h0;have:=h.h1;omega)) c
    have hd:(yX f c).length≤(yh f.mark f.held.toNat c).1.length:=by unfold yX;rw [List.length_drop];omega
    have e0:(fmSk f c).held.toNat=(yh f.mark f.held.toNat c).2.1:=Int.toNat_natCast _
    unfold yA
    split
    · show zG (if f.pos=6∧yX f c≠[] then f.out++[evB (yX f c)] else f.out)+(fmSk f c).held.toNat≤_
      rw [e0]
      split
      · rw [yR,vZ];simp only [evB];omega
      · omega
    · show zG (if f.pos=6 then(if yX f c≠[] then f.out++[evB (yX f c),evO] else f.out++[evO]) else f.out)+(fmSk f c).held.toNat≤_
      rw [e0]
      have e1:zG [evB (yX f c),evO]=(yX f c).length:=by simp [zG,evB,evO]
      have e2:zG [evO]=0:=rfl
      split
      · split
        · rw [yR,e1];omega
        · rw [yR,e2];omega
      · omega
  · split
    · unfold zS
      repeat' split
      all_goals first
        |(simp only;omega)
        |(rw [(hfail _ _).1,(hfail _ _).2];omega)
        |(show zG (f.out++[evE])+_≤_;rw [wU _ _ rfl];simp only;omega)
    · split
      · split
        · rw [(hfail _ _).1,(hfail _ _).2];omega
        · simp only;omega
      · split
        · split
          · rw [(hfail _ _).1,(hfail _ _).2];simp only;omega
          · split
            · have hn:(lnOf f).b.length≤i:=by
                unfold lnOf
                cases e:f.ln with
                |none=>simp [ln0]
                |some l=>exact h.lb l e
              have hb:=zhj (lnOf f) c
              have hm:=zat h (show i≤i+1 by omega)
              exact zbE (i:=i+1) (f:= { f with ln:=some (lnF (lnOf f) c).1}) ⟨hm.bs,hm.ml,hm.h0,hm.h1,hm.s0,hm.p0,hm.fl,hm.ff,(fun l e=>by cases e;omega),(fun _ e=>by cases e),hm.on⟩ _
            · simp only;omega
        · omega
theorem zcW (f:Fm) (b:Str) {i:Nat} (h:i<b.length):wz f (b.take (i+1))=fmF (wz f (b.take i)) (b.getD i 0):=by
  rw [show b.getD i 0=b[i] by simp [h],List.take_succ_eq_append_getElem h]
  unfold wz
  rw [List.foldl_append]
  rfl
theorem RF: ∀ (b:Str) (f:Fm) (i:Nat),FmI f i→FmI (wz f b) (i+b.length)
  |[],f,i,h=>h
  | c::r,f,i,h=>by
    have:=RF r (fmF f c) (i+1) (zeA h c)
    rw [List.length_cons,show i+(r.length+1)=i+1+r.length by omega]
    exact this
def fmN0 (f:Fm) (b:Str):Prop:=∃ n,FmI { f with out:=[]} n∧n+b.length≤400000
theorem zex (m:Str) (hd:Int) (bs:List Int) (p:Int) (fs:List Fld) (pa sk co:Int) (out:List Evt) (b:Str) (hneed:fmN0 ⟨m,hd,bs,p,none,fs,pa,sk,co,out⟩ b):Spc Tryd.prog 9 [.v (.one (.ptr 0 0)),.v (.one (.p (.list .byte b)))] [.abs (.fm ⟨m,hd,bs,p,none,fs,pa,sk,co,out⟩)] (.ret (.v (.one (.row 1)))) [.abs (.fm ((zq ⟨m,hd,bs,p,none,fs,pa,sk,co,out⟩ b))),.row .evt 63 ((zH (zq ⟨m,hd,bs,p,none,fs,pa,sk,co,out⟩ b).out))]:=by
  obtain⟨n,hI0,hnb⟩:=hneed
  have hml:=hI0.ml
  have hh1:=hI0.h1
  have hh0:=hI0.h0
  simp only at hml hh1 hh0
  have hh:hd.toNat≤1000:=by
    omega
  refine spcG zl mixed Tryd.func9 (by kernel_rfl) { cfgF with keep:=some [0,1,4,6,10,11,12]} [YK,YJ,wJ,wI] (by kernel_rfl) ?_
  intro I X hI hX
  refine zi (.code 0 [1,1,0,1,0] ⟨[(12,(.v (.one (.p (.int .i64 0))))),(11,(.v (.one (.p (.int .i64 (I.len (α:=UInt8) b)))))),(10,(.v (.one (.p (.list .byte b))))),(4,(.v (.one .nilS))),(0,(.v (.one (.ptr 0 0)))),(1,(.v (.one (.p (.list .byte b)))))],[(.obj 55 [(.ptr 1 0),(.p (.int .i64 p)),(.p (.val (.pointer .none))),(.row 2),(.p (.int .i64 pa)),(.p (.int .i64 sk)),(.p (.int .i64 co)),.nilS]),(.pack [(.obj 84 [(.row 1),(.row 2),(.p (.int .i64 hd))]),(.row .byte 5 m),(.row .int 3 bs)]),(.row .fld 67 fs),(.row .evt 63 out)],25,none⟩) (by kernel_rfl) ?_
  simp only [zu]
  unfold zq
  simp only at hI0 ⊢
  refine zL hI zl mixed [YK,YJ,wJ,wI] hX [0,10,11,12] (fun(g:Nat × Fm)=>match g with|(i,r)=>i≤b.length∧r=wz (⟨m,hd,bs,p,none,fs,pa,sk,co,[]⟩:Fm) (b.take i)∧FmI r (n+i)∧zG r.out+r.held.toNat≤hd.toNat+2 * i) (fun(g:Nat × Fm)=>match g with|(i,r)=>⟨[(0,.v (.one (.ptr 0 0))),(10,.v (.one (.p (.list .byte b)))),(11,.v (.one (.p (.int .i64 ((I.len (α:=UInt8) b)))))),(12,.v (.one (.p (.int .i64 i))))],[.abs (.fm r)],25,none⟩) (fun(g:Nat × Fm)=>match g with|(i,r)=>b.length - i) (0,(⟨m,hd,bs,p,none,fs,pa,sk,co,[]⟩:Fm)) (by kernel_rfl) (by kernel_rfl) ?_ ?_
  · exact⟨Nat.zero_le _,rfl,hI0,by simp [zG]⟩
  rintro⟨i,⟨m2,hd2,bs2,p2,ln2,fs2,pa2,sk2,co2,out2⟩⟩ ⟨h1,h2,h3,h4⟩ A hA
  simp only at hA h1 h2 h3 h4
  have hrn:i<b.length→fmN _:=fun h=>⟨n+i,by omega,h3⟩
  have hgo:i<b.length→_:=fun h=>hA (i+1,fmF ⟨m2,hd2,bs2,p2,ln2,fs2,pa2,sk2,co2,out2⟩ (b.getD i 0)) ⟨by simp only;omega,by simp only;rw [zcW _ _ h,← h2],by simp only;exact zeA h3 _,by simp only;have:=RH h3 (b.getD i 0);simp only at this;omega⟩ (by simp only;omega)
  have hend: ¬ i<b.length→_:=fun h=>h2.trans (by rw [List.take_of_length_le (by omega)])
  rcases ln2 with _|l2
  · have h0:=h1
    refine zi (let y0:=I.b2i (I.get (α:=UInt8) b 0 (Nat.cast i));let y1:=I.inb (Nat.cast i) (I.len (α:=UInt8) b);.br (I.ilt (Nat.cast i) (I.len (α:=UInt8) b)) (.need y1 (.need y1 (.need (I.hid (α:=(Prop)) (And (fmN (Go.Ab.Fm.mk m2 hd2 bs2 p2 (Option.none) fs2 pa2 sk2 co2 out2)) (And (LE.le (0:Int) y0) (LE.le y0 (255:Int))))) (.need (I.inr Go.IntKind.i64 (I.add (Nat.cast i) 1)) (.need (A ⟨[(0,(.v (.one (.ptr 0 0)))),(10,(.v (.one (.p (.list .byte b))))),(11,(.v (.one (.p (.int .i64 (I.len (α:=UInt8) b)))))),(12,(.v (.one (.p (.int .i64 (I.add (Nat.cast i) 1))))))],[(.abs (.fm (I.hid (α:=Go.Ab.Fm) (fmF (Go.Ab.Fm.mk m2 hd2 bs2 p2 (Option.none) fs2 pa2 sk2 co2 out2) (UInt8.ofNat (Int.toNat y0))))))],25,none⟩) .qed))))) (.need (I.hid (α:=(Prop)) (And (LE.le (zG out2) 1000000) (LE.le (List.length out2) 10000000))) (.fin (.ret (.v (.one (.row 1)))) [(.abs (.fm (Go.Ab.Fm.mk m2 hd2 bs2 p2 (Option.none) fs2 pa2 sk2 co2 out2))),(.row .evt 63 (I.hid (α:=(List Go.Ab.Evt)) (zH out2)))]))) (by kernel_rfl) ?_
    simp only [zu]
    subst hI
    simp only [nrmA,nrmB,nrlB,reduceCtorEq,HO.abs.injEq,Gh.fm.injEq]
    by_cases hi:i<b.length
    · have hg:=hgo hi
      have hn:=hrn hi
      (repeat' (first|refine And.intro ?_ ?_|intro _))<;>first|omega|exact True.intro|exact False.elim ‹False›|skip
      all_goals first|omega|exact hg|exact hn|contradiction|(have:=(b.getD i 0).toNat_lt;omega)|trace_state
    · have hg:=hend hi
      rw [← hg]
      have hon:=h3.on
      simp only at hon
      (repeat' (first|refine And.intro ?_ ?_|intro _))<;>first|omega|exact True.intro|exact False.elim ‹False›|skip
      all_goals first|omega|rfl|contradiction|exact⟨by omega,by omega⟩|trace_state
  · have h0:=h1
    refine zi (let y0:=I.b2i (I.get (α:=UInt8) b 0 (Nat.cast i));let y1:=I.inb (Nat.cast i) (I.len (α:=UInt8) b);.br (I.ilt (Nat.cast i) (I.len (α:=UInt8) b)) (.need y1 (.need y1 (.need (I.hid (α:=(Prop)) (And (fmN (Go.Ab.Fm.mk m2 hd2 bs2 p2 (Option.some l2) fs2 pa2 sk2 co2 out2)) (And (LE.le (0:Int) y0) (LE.le y0 (255:Int))))) (.need (I.inr Go.IntKind.i64 (I.add (Nat.cast i) 1)) (.need (A ⟨[(0,(.v (.one (.ptr 0 0)))),(10,(.v (.one (.p (.list .byte b))))),(11,(.v (.one (.p (.int .i64 (I.len (α:=UInt8) b)))))),(12,(.v (.one (.p (.int .i64 (I.add (Nat.cast i) 1))))))],[(.abs (.fm (I.hid (α:=Go.Ab.Fm) (fmF (Go.Ab.Fm.mk m2 hd2 bs2 p2 (Option.some l2) fs2 pa2 sk2 co2 out2) (UInt8.ofNat (Int.toNat y0))))))],25,none⟩) .qed))))) (.need (I.hid (α:=(Prop)) (And (LE.le (zG out2) 1000000) (LE.le (List.length out2) 10000000))) (.fin (.ret (.v (.one (.row 1)))) [(.abs (.fm (Go.Ab.Fm.mk m2 hd2 bs2 p2 (Option.some (Go.Ab.Ln.mk (Go.Ab.Ln.b l2) (Go.Ab.Ln.cr l2) (Go.Ab.Ln.code l2))) fs2 pa2 sk2 co2 out2))),(.row .evt 63 (I.hid (α:=(List Go.Ab.Evt)) (zH out2)))]))) (by kernel_rfl) ?_
    simp only [zu]
    subst hI
    simp only [nrmA,nrmB,nrlB,reduceCtorEq,HO.abs.injEq,Gh.fm.injEq]
    by_cases hi:i<b.length
    · have hg:=hgo hi
      have hn:=hrn hi
      (repeat' (first|refine And.intro ?_ ?_|intro _))<;>first|omega|exact True.intro|exact False.elim ‹False›|skip
      all_goals first|omega|exact hg|exact hn|contradiction|(have:=(b.getD i 0).toNat_lt;omega)|trace_state
    · have hg:=hend hi
      rw [← hg]
      have hon:=h3.on
      simp only at hon
      (repeat' (first|refine And.intro ?_ ?_|intro _))<;>first|omega|exact True.intro|exact False.elim ‹False›|skip
      all_goals first|omega|rfl|contradiction|exact⟨by omega,by omega⟩|trace_state
theorem zew (m:Str) (hd:Int) (bs:List Int) (p:Int) (ln:Ln) (fs:List Fld) (pa sk co:Int) (out:List Evt) (b:Str) (hneed:fmN0 ⟨m,hd,bs,p,some ln,fs,pa,sk,co,out⟩ b):Spc Tryd.prog 9 [.v (.one (.ptr 0 0)),.v (.one (.p (.list .byte b)))] [.abs (.fm ⟨m,hd,bs,p,some ln,fs,pa,sk,co,out⟩)] (.ret (.v (.one (.row 1)))) [.abs (.fm ((zq ⟨m,hd,bs,p,some ln,fs,pa,sk,co,out⟩ b))),.row .evt 63 ((zH (zq ⟨m,hd,bs,p,some ln,fs,pa,sk,co,out⟩ b).out))]:=by
  obtain⟨n,hI0,hnb⟩:=hneed
  have hml:=hI0.ml
  have hh1:=hI0.h1
  have hh0:=hI0.h0
  simp only at hml hh1 hh0
  have hh:hd.toNat≤1000:=by
    omega
  refine spcG zl mixed Tryd.func9 (by kernel_rfl) { cfgF with keep:=some [0,1,4,6,10,11,12]} [YK,YJ,wJ,wI] (by kernel_rfl) ?_
  intro I X hI hX
  refine zi (.code 0 [1,1,0,1,0] ⟨[(12,(.v (.one (.p (.int .i64 0))))),(11,(.v (.one (.p (.int .i64 (I.len (α:=UInt8) b)))))),(10,(.v (.one (.p (.list .byte b))))),(4,(.v (.one .nilS))),(0,(.v (.one (.ptr 0 0)))),(1,(.v (.one (.p (.list .byte b)))))],[(.obj 55 [(.ptr 1 0),(.p (.int .i64 p)),(.ptr 2 0),(.row 3),(.p (.int .i64 pa)),(.p (.int .i64 sk)),(.p (.int .i64 co)),.nilS]),(.pack [(.obj 84 [(.row 1),(.row 2),(.p (.int .i64 hd))]),(.row .byte 5 m),(.row .int 3 bs)]),(.pack [(.obj 106 [(.row 1),(.p (.bool (Go.Ab.Ln.cr ln))),(.p (.int .i64 (Go.Ab.Ln.code ln)))]),(.row .byte 5 (Go.Ab.Ln.b ln))]),(.row .fld 67 fs),(.row .evt 63 out)],25,none⟩) (by kernel_rfl) ?_
  simp only [zu]
  unfold zq
  simp only at hI0 ⊢
  refine zL hI zl mixed [YK,YJ,wJ,wI] hX [0,10,11,12] (fun(g:Nat × Fm)=>match g with|(i,r)=>i≤b.length∧r=wz (⟨m,hd,bs,p,some ln,fs,pa,sk,co,[]⟩:Fm) (b.take i)∧FmI r (n+i)∧zG r.out+r.held.toNat≤hd.toNat+2 * i) (fun(g:Nat × Fm)=>match g with|(i,r)=>⟨[(0,.v (.one (.ptr 0 0))),(10,.v (.one (.p (.list .byte b)))),(11,.v (.one (.p (.int .i64 ((I.len (α:=UInt8) b)))))),(12,.v (.one (.p (.int .i64 i))))],[.abs (.fm r)],25,none⟩) (fun(g:Nat × Fm)=>match g with|(i,r)=>b.length - i) (0,(⟨m,hd,bs,p,some ln,fs,pa,sk,co,[]⟩:Fm)) (by kernel_rfl) (by kernel_rfl) ?_ ?_
  · exact⟨Nat.zero_le _,rfl,hI0,by simp [zG]⟩
  rintro⟨i,⟨m2,hd2,bs2,p2,ln2,fs2,pa2,sk2,co2,out2⟩⟩ ⟨h1,h2,h3,h4⟩ A hA
  simp only at hA h1 h2 h3 h4
  have hrn:i<b.length→fmN _:=fun h=>⟨n+i,by omega,h3⟩
  have hgo:i<b.length→_:=fun h=>hA (i+1,fmF ⟨m2,hd2,bs2,p2,ln2,fs2,pa2,sk2,co2,out2⟩ (b.getD i 0)) ⟨by simp only;omega,by simp only;rw [zcW _ _ h,← h2],by simp only;exact zeA h3 _,by simp only;have:=RH h3 (b.getD i 0);simp only at this;omega⟩ (by simp only;omega)
  have hend: ¬ i<b.length→_:=fun h=>h2.trans (by rw [List.take_of_length_le (by omega)])
  rcases ln2 with _|l2
  · have h0:=h1
    refine zi (let y0:=I.b2i (I.get (α:=UInt8) b 0 (Nat.cast i));let y1:=I.inb (Nat.cast i) (I.len (α:=UInt8) b);.br (I.ilt (Nat.cast i) (I.len (α:=UInt8) b)) (.need y1 (.need y1 (.need (I.hid (α:=(Prop)) (And (fmN (Go.Ab.Fm.mk m2 hd2 bs2 p2 (Option.none) fs2 pa2 sk2 co2 out2)) (And (LE.le (0:Int) y0) (LE.le y0 (255:Int))))) (.need (I.inr Go.IntKind.i64 (I.add (Nat.cast i) 1)) (.need (A ⟨[(0,(.v (.one (.ptr 0 0)))),(10,(.v (.one (.p (.list .byte b))))),(11,(.v (.one (.p (.int .i64 (I.len (α:=UInt8) b)))))),(12,(.v (.one (.p (.int .i64 (I.add (Nat.cast i) 1))))))],[(.abs (.fm (I.hid (α:=Go.Ab.Fm) (fmF (Go.Ab.Fm.mk m2 hd2 bs2 p2 (Option.none) fs2 pa2 sk2 co2 out2) (UInt8.ofNat (Int.toNat y0))))))],25,none⟩) .qed))))) (.need (I.hid (α:=(Prop)) (And (LE.le (zG out2) 1000000) (LE.le (List.length out2) 10000000))) (.fin (.ret (.v (.one (.row 1)))) [(.abs (.fm (Go.Ab.Fm.mk m2 hd2 bs2 p2 (Option.none) fs2 pa2 sk2 co2 out2))),(.row .evt 63 (I.hid (α:=(List Go.Ab.Evt)) (zH out2)))]))) (by kernel_rfl) ?_
    simp only [zu]
    subst hI
    simp only [nrmA,nrmB,nrlB,reduceCtorEq,HO.abs.injEq,Gh.fm.injEq]
    by_cases hi:i<b.length
    · have hg:=hgo hi
      have hn:=hrn hi
      (repeat' (first|refine And.intro ?_ ?_|intro _))<;>first|omega|exact True.intro|exact False.elim ‹False›|skip
      all_goals first|omega|exact hg|exact hn|contradiction|(have:=(b.getD i 0).toNat_lt;omega)|trace_state
    · have hg:=hend hi
      rw [← hg]
      have hon:=h3.on
      simp only at hon
      (repeat' (first|refine And.intro ?_ ?_|intro _))<;>first|omega|exact True.intro|exact False.elim ‹False›|skip
      all_goals first|omega|rfl|contradiction|exact⟨by omega,by omega⟩|trace_state
  · have h0:=h1
    refine zi (let y0:=I.b2i (I.get (α:=UInt8) b 0 (Nat.cast i));let y1:=I.inb (Nat.cast i) (I.len (α:=UInt8) b);.br (I.ilt (Nat.cast i) (I.len (α:=UInt8) b)) (.need y1 (.need y1 (.need (I.hid (α:=(Prop)) (And (fmN (Go.Ab.Fm.mk m2 hd2 bs2 p2 (Option.some l2) fs2 pa2 sk2 co2 out2)) (And (LE.le (0:Int) y0) (LE.le y0 (255:Int))))) (.need (I.inr Go.IntKind.i64 (I.add (Nat.cast i) 1)) (.need (A ⟨[(0,(.v (.one (.ptr 0 0)))),(10,(.v (.one (.p (.list .byte b))))),(11,(.v (.one (.p (.int .i64 (I.len (α:=UInt8) b)))))),(12,(.v (.one (.p (.int .i64 (I.add (Nat.cast i) 1))))))],[(.abs (.fm (I.hid (α:=Go.Ab.Fm) (fmF (Go.Ab.Fm.mk m2 hd2 bs2 p2 (Option.some l2) fs2 pa2 sk2 co2 out2) (UInt8.ofNat (Int.toNat y0))))))],25,none⟩) .qed))))) (.need (I.hid (α:=(Prop)) (And (LE.le (zG out2) 1000000) (LE.le (List.length out2) 10000000))) (.fin (.ret (.v (.one (.row 1)))) [(.abs (.fm (Go.Ab.Fm.mk m2 hd2 bs2 p2 (Option.some (Go.Ab.Ln.mk (Go.Ab.Ln.b l2) (Go.Ab.Ln.cr l2) (Go.Ab.Ln.code l2))) fs2 pa2 sk2 co2 out2))),(.row .evt 63 (I.hid (α:=(List Go.Ab.Evt)) (zH out2)))]))) (by kernel_rfl) ?_
    simp only [zu]
    subst hI
    simp only [nrmA,nrmB,nrlB,reduceCtorEq,HO.abs.injEq,Gh.fm.injEq]
    by_cases hi:i<b.length
    · have hg:=hgo hi
      have hn:=hrn hi
      (repeat' (first|refine And.intro ?_ ?_|intro _))<;>first|omega|exact True.intro|exact False.elim ‹False›|skip
      all_goals first|omega|exact hg|exact hn|contradiction|(have:=(b.getD i 0).toNat_lt;omega)|trace_state
    · have hg:=hend hi
      rw [← hg]
      have hon:=h3.on
      simp only at hon
      (repeat' (first|refine And.intro ?_ ?_|intro _))<;>first|omega|exact True.intro|exact False.elim ‹False›|skip
      all_goals first|omega|rfl|contradiction|exact⟨by omega,by omega⟩|trace_state
theorem zgk (f:Fm) (b:Str) (hneed:fmN0 f b):Spc Tryd.prog 9 [.v (.one (.ptr 0 0)),.v (.one (.p (.list .byte b)))] [.abs (.fm f)] (.ret (.v (.one (.row 1)))) [.abs (.fm ((zq f b))),.row .evt 63 ((zH (zq f b).out))]:=by
  obtain⟨m,hd,bs,p,ln,fs,pa,sk,co,out⟩:=f
  cases ln with
  |none=>exact zex m hd bs p fs pa sk co out b hneed
  |some ln=>exact zew m hd bs p ln fs pa sk co out b hneed
def Zk (I:Alg) (args:List D) (hp:List HO):Option CT:=match args,hp with
  |[.v (.one (.ptr 0 0)),.v (.one (.p (.list .byte b)))],[.abs (.fm f)]=>(fun(f:Fm) (b:Str)=>(some (.one ⟨I.hid (fmN0 f b),(.ret (.v (.one (.row 1)))),[.abs (.fm (I.hid ((zq f b)))),.row .evt 63 (I.hid ((zH (zq f b).out)))]⟩):Option CT)) f b
  |_,_=>none
theorem TG:zA Tryd.prog 9 (Zk alg):=by
  intro args hp r h
  unfold Zk at h
  split at h
  · cases h;exact fun hn=>zgk _ _ hn
  · cases h
def vX:Know Tryd.prog:=⟨9,Zk,TG⟩
def vW:Know Tryd.prog:=⟨9,fun I=>zB I (Zk I),zf TG⟩
theorem zc7 (m:Str) (hd:Int) (bs:List Int) (p:Int) (fs:List Fld) (pa sk co:Int) (out:List Evt):Spc Tryd.prog 12 [.v (.one (.ptr 0 0))] [.abs (.fm ⟨m,hd,bs,p,none,fs,pa,sk,co,out⟩)] (.ret (.v (.one (.p (.int .i64 ((yw ⟨m,hd,bs,p,none,fs,pa,sk,co,out⟩))))))) [.abs (.fm ⟨m,hd,bs,p,none,fs,pa,sk,co,out⟩)]:=by
  generalize hr:yw ⟨m,hd,bs,p,none,fs,pa,sk,co,out⟩=r
  unfold yw at hr
  simp only at hr
  refine spcG zl mixed Tryd.func12 (by kernel_rfl) { cfgF with keep:=some [0,2,6]} [] (by kernel_rfl) ?_
  intro I X hI hX
  refine zi (.br (I.ieq p 8) (.fin (.ret (.v (.one (.p (.int .i64 co))))) [(.abs (.fm (Go.Ab.Fm.mk m hd bs p (Option.none) fs pa sk co out)))]) (.br (I.ieq p 7) (.fin (.ret (.v (.one (.p (.int .i64 0))))) [(.abs (.fm (Go.Ab.Fm.mk m hd bs p (Option.none) fs pa sk co out)))]) (.fin (.ret (.v (.one (.p (.int .i64 14))))) [(.abs (.fm (Go.Ab.Fm.mk m hd bs p (Option.none) fs pa sk co out)))]))) (by kernel_rfl) ?_
  simp only [zu]
  subst hI
  simp only [nrmA,nrmB,nrlB,reduceCtorEq,HO.abs.injEq,Gh.fm.injEq]
  (repeat' (first|refine And.intro ?_ ?_|intro _))<;>first|omega|exact True.intro|exact False.elim ‹False›|skip
  all_goals first|omega|rfl|(subst hr;simp [*];done)|trace_state
theorem zc6 (m:Str) (hd:Int) (bs:List Int) (p:Int) (ln:Ln) (fs:List Fld) (pa sk co:Int) (out:List Evt):Spc Tryd.prog 12 [.v (.one (.ptr 0 0))] [.abs (.fm ⟨m,hd,bs,p,some ln,fs,pa,sk,co,out⟩)] (.ret (.v (.one (.p (.int .i64 ((yw ⟨m,hd,bs,p,some ln,fs,pa,sk,co,out⟩))))))) [.abs (.fm ⟨m,hd,bs,p,some ln,fs,pa,sk,co,out⟩)]:=by
  generalize hr:yw ⟨m,hd,bs,p,some ln,fs,pa,sk,co,out⟩=r
  unfold yw at hr
  simp only at hr
  refine spcG zl mixed Tryd.func12 (by kernel_rfl) { cfgF with keep:=some [0,2,6]} [] (by kernel_rfl) ?_
  intro I X hI hX
  refine zi (.br (I.ieq p 8) (.fin (.ret (.v (.one (.p (.int .i64 co))))) [(.abs (.fm (Go.Ab.Fm.mk m hd bs p (Option.some (Go.Ab.Ln.mk (Go.Ab.Ln.b ln) (Go.Ab.Ln.cr ln) (Go.Ab.Ln.code ln))) fs pa sk co out)))]) (.br (I.ieq p 7) (.fin (.ret (.v (.one (.p (.int .i64 0))))) [(.abs (.fm (Go.Ab.Fm.mk m hd bs p (Option.some (Go.Ab.Ln.mk (Go.Ab.Ln.b ln) (Go.Ab.Ln.cr ln) (Go.Ab.Ln.code ln))) fs pa sk co out)))]) (.fin (.ret (.v (.one (.p (.int .i64 14))))) [(.abs (.fm (Go.Ab.Fm.mk m hd bs p (Option.some (Go.Ab.Ln.mk (Go.Ab.Ln.b ln) (Go.Ab.Ln.cr ln) (Go.Ab.Ln.code ln))) fs pa sk co out)))]))) (by kernel_rfl) ?_
  simp only [zu]
  subst hI
  simp only [nrmA,nrmB,nrlB,reduceCtorEq,HO.abs.injEq,Gh.fm.injEq]
  (repeat' (first|refine And.intro ?_ ?_|intro _))<;>first|omega|exact True.intro|exact False.elim ‹False›|skip
  all_goals first|omega|rfl|(subst hr;simp [*];done)|trace_state
theorem zeB (f:Fm):Spc Tryd.prog 12 [.v (.one (.ptr 0 0))] [.abs (.fm f)] (.ret (.v (.one (.p (.int .i64 ((yw f))))))) [.abs (.fm f)]:=by
  obtain⟨m,hd,bs,p,ln,fs,pa,sk,co,out⟩:=f
  cases ln with
  |none=>exact zc7 m hd bs p fs pa sk co out
  |some ln=>exact zc6 m hd bs p ln fs pa sk co out
def rH (I:Alg) (args:List D) (hp:List HO):Option CT:=match args,hp with
  |[.v (.one (.ptr 0 0))],[.abs (.fm f)]=>(fun(f:Fm)=>(some (.one ⟨I.hid (True),(.ret (.v (.one (.p (.int .i64 (I.hid ((yw f)))))))),[.abs (.fm f)]⟩):Option CT)) f
  |_,_=>none
theorem WT:zA Tryd.prog 12 (rH alg):=by
  intro args hp r h
  unfold rH at h
  split at h
  · cases h;exact fun hn=>zeB _
  · cases h
def wG:Know Tryd.prog:=⟨12,rH,WT⟩
def wF:Know Tryd.prog:=⟨12,fun I=>zB I (rH I),zf WT⟩
theorem zc5 (s:Str) (hneed:s.length≤140737488355328∧yT s=true):Spc Tryd.prog 7 [.v (.one (.p (.str s)))] [] (.ret (.tup [(.one (.ptr 0 0)),(.one (.p (.int .i64 0)))])) [.abs (.fm ((fm0 s)))]:=by
  obtain⟨hs,hm⟩:=hneed
  have hl:s.length≤70:=by unfold yT at hm;simp at hm;omega
  generalize hr:fm0 s=r
  unfold fm0 fmSk at hr
  simp only [Int.toNat_natCast] at hr
  refine spcG zl mixed Tryd.func7 (by kernel_rfl) { cfgF with keep:=some [0,2,3,4]} [ZO,ZN,ze6,ze5,VO,VN] (by kernel_rfl) ?_
  intro I X hI hX
  refine zi (let y0:=I.hid (α:=Int) (Nat.cast (Prod.fst (Prod.snd (yh (I.app (α:=UInt8) ([13,10,45,45]:Str) s) (Int.toNat (0:Int)) (UInt8.ofNat (Int.toNat (13:Int)))))));let y1:=I.hid (α:=(List Int)) (xR (I.app (α:=UInt8) ([13,10,45,45]:Str) s));.need (I.hid (α:=(Prop)) (LE.le (List.length s) 140737488355328)) (.br (I.bnot (I.hid (α:=Bool) (yT s))) (.fin (.ret (.tup [(.one (.p (.val (.pointer .none)))),(.one (.p (.int .i64 5)))])) []) (.need (I.few (I.add (I.len (α:=UInt8) ([13,10,45,45]:Str)) (I.len (α:=UInt8) s)) 1000000000) (.need (I.hid (α:=(Prop)) (LE.le (List.length (I.app (α:=UInt8) ([13,10,45,45]:Str) s)) 999999)) (.need (I.hid (α:=(Prop)) (And (Eq y1 (xR (I.app (α:=UInt8) ([13,10,45,45]:Str) s))) (And (LE.le (List.length (I.app (α:=UInt8) ([13,10,45,45]:Str) s)) 1000000) (And (LE.le (0:Int) (0:Int)) (And (Or (Eq (I.app (α:=UInt8) ([13,10,45,45]:Str) s) ([]:Str)) (LT.lt (0:Int) (Nat.cast (List.length (I.app (α:=UInt8) ([13,10,45,45]:Str) s))))) (And (LE.le (0:Int) (13:Int)) (LE.le (13:Int) (255:Int)))))))) (.need (I.hid (α:=(Prop)) (And (Eq y1 (xR (I.app (α:=UInt8) ([13,10,45,45]:Str) s))) (And (LE.le (List.length (I.app (α:=UInt8) ([13,10,45,45]:Str) s)) 1000000) (And (LE.le (0:Int) y0) (And (Or (Eq (I.app (α:=UInt8) ([13,10,45,45]:Str) s) ([]:Str)) (LT.lt y0 (Nat.cast (List.length (I.app (α:=UInt8) ([13,10,45,45]:Str) s))))) (And (LE.le (0:Int) (10:Int)) (LE.le (10:Int) (255:Int)))))))) (.fin (.ret (.tup [(.one (.ptr 0 0)),(.one (.p (.int .i64 0)))])) [(.abs (.fm (Go.Ab.Fm.mk (I.app (α:=UInt8) ([13,10,45,45]:Str) s) (I.hid (α:=Int) (Nat.cast (Prod.fst (Prod.snd (yh (I.app (α:=UInt8) ([13,10,45,45]:Str) s) (Int.toNat y0) (UInt8.ofNat (Int.toNat (10:Int)))))))) y1 (0:Int) (Option.none) ([]:List Fld) (0:Int) (0:Int) (0:Int) ([]:List Go.Ab.Evt))))]))))))) (by kernel_rfl) ?_
  simp only [zu]
  unfold Xz at hr
  subst hI
  simp only [nrmA,nrmB,nrlB,reduceCtorEq,HO.abs.injEq,Gh.fm.injEq]
  have hM:([13,10,45,45]++s).length=s.length+4:=by simp
  generalize([13,10,45,45]++s:Str)=M at *
  have h1:=Zm M 0 13
  (repeat' (first|refine And.intro ?_ ?_|intro _))<;>first|omega|exact True.intro|exact False.elim ‹False›|skip
  all_goals first
    |omega
    |exact .inr (by omega)
    |exact h1
    |exact Int.natCast_nonneg _
    |exact absurd (hm.symm.trans ‹yT s=false›) (by decide)
    |(subst hr;rfl)
    |(simp only [List.length_cons,List.length_nil];omega)
def Zi (I:Alg) (args:List D) (hp:List HO):Option CT:=match args,hp with
  |[.v (.one (.p (.str s)))],[]=>(fun(s:Str)=>(some (.one ⟨I.hid (s.length≤140737488355328∧yT s=true),(.ret (.tup [(.one (.ptr 0 0)),(.one (.p (.int .i64 0)))])),[.abs (.fm (I.hid ((fm0 s))))]⟩):Option CT)) s
  |_,_=>none
theorem Tz:zA Tryd.prog 7 (Zi alg):=by
  intro args hp r h
  unfold Zi at h
  split at h
  · cases h;exact fun hn=>zc5 _ hn
  · cases h
def Xy:Know Tryd.prog:=⟨7,Zi,Tz⟩
def Xx:Know Tryd.prog:=⟨7,fun I=>zB I (Zi I),zf Tz⟩
theorem zc4 (s:Str) (hneed:s.length≤140737488355328∧yT s=false):Spc Tryd.prog 7 [.v (.one (.p (.str s)))] [] (.ret (.tup [(.one (.p (.val (.pointer none)))),(.one (.p (.int .i64 5)))])) []:=by
  obtain⟨hs,hm⟩:=hneed
  refine spcG zl mixed Tryd.func7 (by kernel_rfl) { cfgF with keep:=some [0,2,3,4]} [ZO,ZN,ze6,ze5,VO,VN,Xy,Xx] (by kernel_rfl) ?_
  intro I X hI hX
  refine zi (let y0:=I.hid (α:=Int) (Nat.cast (Prod.fst (Prod.snd (yh (I.app (α:=UInt8) ([13,10,45,45]:Str) s) (Int.toNat (0:Int)) (UInt8.ofNat (Int.toNat (13:Int)))))));let y1:=I.hid (α:=(List Int)) (xR (I.app (α:=UInt8) ([13,10,45,45]:Str) s));.need (I.hid (α:=(Prop)) (LE.le (List.length s) 140737488355328)) (.br (I.bnot (I.hid (α:=Bool) (yT s))) (.fin (.ret (.tup [(.one (.p (.val (.pointer .none)))),(.one (.p (.int .i64 5)))])) []) (.need (I.few (I.add (I.len (α:=UInt8) ([13,10,45,45]:Str)) (I.len (α:=UInt8) s)) 1000000000) (.need (I.hid (α:=(Prop)) (LE.le (List.length (I.app (α:=UInt8) ([13,10,45,45]:Str) s)) 999999)) (.need (I.hid (α:=(Prop)) (And (Eq y1 (xR (I.app (α:=UInt8) ([13,10,45,45]:Str) s))) (And (LE.le (List.length (I.app (α:=UInt8) ([13,10,45,45]:Str) s)) 1000000) (And (LE.le (0:Int) (0:Int)) (And (Or (Eq (I.app (α:=UInt8) ([13,10,45,45]:Str) s) ([]:Str)) (LT.lt (0:Int) (Nat.cast (List.length (I.app (α:=UInt8) ([13,10,45,45]:Str) s))))) (And (LE.le (0:Int) (13:Int)) (LE.le (13:Int) (255:Int)))))))) (.need (I.hid (α:=(Prop)) (And (Eq y1 (xR (I.app (α:=UInt8) ([13,10,45,45]:Str) s))) (And (LE.le (List.length (I.app (α:=UInt8) ([13,10,45,45]:Str) s)) 1000000) (And (LE.le (0:Int) y0) (And (Or (Eq (I.app (α:=UInt8) ([13,10,45,45]:Str) s) ([]:Str)) (LT.lt y0 (Nat.cast (List.length (I.app (α:=UInt8) ([13,10,45,45]:Str) s))))) (And (LE.le (0:Int) (10:Int)) (LE.le (10:Int) (255:Int)))))))) (.fin (.ret (.tup [(.one (.ptr 0 0)),(.one (.p (.int .i64 0)))])) [(.abs (.fm (Go.Ab.Fm.mk (I.app (α:=UInt8) ([13,10,45,45]:Str) s) (I.hid (α:=Int) (Nat.cast (Prod.fst (Prod.snd (yh (I.app (α:=UInt8) ([13,10,45,45]:Str) s) (Int.toNat y0) (UInt8.ofNat (Int.toNat (10:Int)))))))) y1 (0:Int) (Option.none) ([]:List Fld) (0:Int) (0:Int) (0:Int) ([]:List Go.Ab.Evt))))]))))))) (by kernel_rfl) ?_
  simp only [zu]
  subst hI
  simp only [nrmA,nrmB,nrlB,reduceCtorEq]
  exact⟨hs,fun _=>trivial,by simp [hm]⟩
end Go.Proofs.YtknaogelmckimaaDoor
namespace Go.Proofs.YtknaogelmckimaaDoor
open Go Go.Sep Go.Ab
inductive GR:List Evt→Prop
  |nil:GR []
  |other {l:List Evt} {e:Evt} (h:GR l) (h2:e.kind≠2) (h5:e.kind=5→e.part.bytes=[]):GR (l++[e])
  |body {l:List Evt} {x e:Evt} (h:GR (l++[x])) (hx:x.kind=5∨x.kind=2) (h2:e.kind=2) (hb:e.bytes≠[]):GR (l++[x]++[e])
inductive GJ:List Evt→Prop
  |nil:GJ []
  |other {l:List Evt} {e:Evt} (h:GJ l) (h2:e.kind≠2) (h5:e.kind=5→e.part.bytes=[]):GJ (l++[e])
  |body {l:List Evt} {x e:Evt} (h:GJ (l++[x])) (hx:x.kind=5) (h2:e.kind=2) (hb:e.bytes≠[]):GJ (l++[x]++[e])
theorem zf7 {l:List Evt} {x:Evt} (h:GR (l++[x])): ∃ z y,zH (l++[x])=z++[y]∧y.kind=x.kind∧(x.kind≠2→y=x):=by
  rw [rf]
  rcases List.eq_nil_or_concat (zH l) with hn|⟨z,y,hz⟩
  · rw [hn,wP];exact⟨[],x,rfl,rfl,fun _=>rfl⟩
  · rw [hz,List.concat_eq_append,zV]
    split
    · rename_i h;exact⟨z,_,rfl,h.1.symm,fun k=>absurd h.1 k⟩
    · exact⟨z++[y],x,rfl,rfl,fun _=>rfl⟩
theorem zf9 {z:List Evt} {y:Evt} (h:GJ (z++[y])) (k:y.kind=2): ∃ l x,z=l++[x]∧GJ (l++[x])∧x.kind=5∧y.bytes≠[]:=by
  generalize hw:z++[y]=w at h
  cases h with
  |nil=>simp at hw
  | other h h2 h5=>
    have:=List.append_inj' hw rfl
    have e:=List.singleton_inj.1 this.2
    exact absurd (e▸k) h2
  | body h hx h2 hb=>
    have:=List.append_inj' hw rfl
    have e:=List.singleton_inj.1 this.2
    exact⟨_,_,this.1,h,hx,by rw [e];exact hb⟩
theorem zh1 {l:List Evt} (h:GR l):GJ (zH l):=by
  induction h with
  |nil=>exact .nil
  | @other l e h h2 h5 ih=>
    rw [rf]
    rcases List.eq_nil_or_concat (zH l) with hn|⟨z,y,hz⟩
    · rw [hn,wP];exact GJ.other (l:=[]) .nil h2 h5
    · rw [hz,List.concat_eq_append] at ih ⊢
      rw [zV,if_neg (fun k=>h2 k.1)]
      exact .other ih h2 h5
  | @body l x e h hx h2 hb ih=>
    obtain⟨z,y,hz,hk,hy⟩:=zf7 h
    rw [rf,hz,zV]
    rw [hz] at ih
    by_cases k:y.kind=2
    · rw [if_pos ⟨h2,k⟩]
      obtain⟨l',x',rfl,g1,g2,g3⟩:=zf9 ih k
      refine .body g1 g2 rfl ?_
      simp only [evB]
      intro h;exact g3 (List.append_eq_nil_iff.1 h).1
    · rw [if_neg (fun h=>k h.2)]
      exact .body ih (by rcases hx with hx|hx;rw [hk];exact hx;exact absurd (hk.trans hx) k) h2 hb
def GI (l:List Evt) (i:Nat) (d:Evt):Prop:=((l.getD i d).kind=2→(l.getD i d).bytes≠[]∧∃ j,i=j+1∧(l.getD j d).kind=5)∧((l.getD i d).kind=5→(l.getD i d).part.bytes=[])
theorem U5 {a b:List Evt} {i:Nat} (h:i<a.length) (d:Evt):(a++b).getD i d=a.getD i d:=by
  rw [List.getD_eq_getElem?_getD,List.getElem?_append_left h,← List.getD_eq_getElem?_getD]
theorem zh2 {l:List Evt} (h:GJ l) (d:Evt): ∀ i,i<l.length→GI l i d:=by
  induction h with
  |nil=>intro i hi;simp at hi
  | @other l e h h2 h5 ih=>
    intro i hi
    rw [List.length_append,List.length_singleton] at hi
    by_cases k:i<l.length
    · obtain⟨a,b⟩:=ih i k
      unfold GI
      rw [U5 k]
      refine⟨fun q=> ?_,b⟩
      obtain⟨a1,j,rfl,a2⟩:=a q
      exact⟨a1,j,rfl,by rw [U5 (by omega)];exact a2⟩
    · have e1:(l++[e]).getD i d=e:=by rw [show i=l.length by omega];simp
      unfold GI
      rw [e1]
      exact⟨fun q=>absurd q h2,h5⟩
  | @body l x e h hx h2 hb ih=>
    intro i hi
    rw [List.length_append,List.length_singleton] at hi
    by_cases k:i<(l++[x]).length
    · obtain⟨a,b⟩:=ih i k
      unfold GI
      rw [U5 k]
      refine⟨fun q=> ?_,b⟩
      obtain⟨a1,j,rfl,a2⟩:=a q
      exact⟨a1,j,rfl,by rw [U5 (by omega)];exact a2⟩
    · have hl:(l++[x]).length=l.length+1:=by simp
      have hi2:i=l.length+1:=by omega
      subst hi2
      have e1:(l++[x]++[e]).getD (l.length+1) d=e:=by rw [← hl];simp
      have e2:(l++[x]++[e]).getD l.length d=x:=by rw [U5 (by omega)];simp
      unfold GI
      rw [e1]
      exact⟨fun _=>⟨hb,l.length,rfl,by rw [e2];exact hx⟩,fun q=>absurd (h2.symm.trans q) (by decide)⟩
def GM (f:Fm):Prop:=GR f.out∧(f.pos=6→∃ l x,f.out=l++[x]∧(x.kind=5∨x.kind=2))
theorem zcN {f:Fm} (h:GR f.out) {e:Evt} (h2:e.kind≠2) (h5:e.kind=5→e.part.bytes=[]):GR (f.out++[e]):=.other h h2 h5
theorem qw {f:Fm} (h:GM f) (c:Int):GM (zC f c):=⟨zcN h.1 (show(4:Int)≠2 by decide) (fun e=>absurd (show(4:Int)=5 from e) (by decide)),fun e=>absurd (show(8:Int)=6 from e) (by decide)⟩
theorem zeo {f:Fm} (h:GM f):GM (yc f):=by
  unfold yc
  split
  · exact qw h _
  · split
    · exact qw h _
    · exact⟨zcN h.1 (show(5:Int)≠2 by decide) (fun _=>SY f.fields),fun _=>⟨_,_,rfl,.inl rfl⟩⟩
theorem zf8 {f:Fm} (h:GM f) (s:Str):GM (yH f s):=by
  unfold yH
  split
  · exact zeo h
  · split
    · exact qw h _
    · split
      · exact qw h _
      · exact h
theorem gm_f {f:Fm} (h:GM f) (c:UInt8):GM (fmF f c):=by
  have hno: ∀ {n:Int},n≠6→n=6→∃ l x,f.out=l++[x]∧(x.kind=5∨x.kind=2):=fun a b=>absurd b a
  unfold fmF
  split
  · unfold yA
    split
    · show GR (if f.pos=6∧yX f c≠[] then f.out++[evB (yX f c)] else f.out)∧(f.pos=6→∃ l x,(if f.pos=6∧yX f c≠[] then f.out++[evB (yX f c)] else f.out)=l++[x]∧(x.kind=5∨x.kind=2))
      split
      · rename_i k
        obtain⟨l,x,e,hx⟩:=h.2 k.1
        refine⟨?_,fun _=>⟨f.out,_,rfl,.inr rfl⟩⟩
        have:=h.1
        rw [e] at this ⊢
        exact .body this hx rfl k.2
      · exact h
    · show GR (if f.pos=6 then(if yX f c≠[] then f.out++[evB (yX f c),evO] else f.out++[evO]) else f.out)∧((1:Int)=6→_)
      refine⟨?_,fun e=>absurd e (by decide)⟩
      split
      · rename_i k
        obtain⟨l,x,e,hx⟩:=h.2 k
        split
        · rename_i k2
          rw [show f.out++[evB (yX f c),evO]=f.out++[evB (yX f c)]++[evO] by simp]
          refine .other ?_ (by decide) (fun q=>absurd (show(6:Int)=5 from q) (by decide))
          have:=h.1
          rw [e] at this ⊢
          exact .body this hx rfl k2
        · exact .other h.1 (by decide) (fun q=>absurd (show(6:Int)=5 from q) (by decide))
      · exact h.1
  · split
    · unfold zS
      split
      · exact⟨h.1,fun e=>absurd (show(2:Int)=6 from e) (by decide)⟩
      · split
        · exact⟨zcN h.1 (show(3:Int)≠2 by decide) (fun e=>absurd (show(3:Int)=5 from e) (by decide)),fun e=>absurd (show(7:Int)=6 from e) (by decide)⟩
        · split
          · exact⟨h.1,fun e=>absurd (show(3:Int)=6 from e) (by decide)⟩
          · split
            · exact⟨h.1,fun e=>absurd (show(4:Int)=6 from e) (by decide)⟩
            · exact qw h 5
    · split
      · split
        · exact qw h 2
        · exact⟨h.1,fun e=>absurd (show(5:Int)=6 from e) (by decide)⟩
      · split
        · have hk:GM { f with ln:=some (lnF (lnOf f) c).1}:=h
          split
          · exact qw hk _
          · split
            · exact zf8 hk _
            · exact hk
        · exact h
theorem zfd: ∀ (b:Str) (f:Fm),GM f→GM (wz f b)
  |[],f,h=>h
  |c::r,f,h=>zfd r (fmF f c) (gm_f h c)
theorem zfF (s b:Str) (d:Evt): ∀ i,i<(zH (zq (fm0 s) b).out).length→GI (zH (zq (fm0 s) b).out) i d:=
  zh2 (zh1 (zfd b { fm0 s with out:=[]} ⟨.nil,fun e=>absurd (show(0:Int)=6 from e) (by decide)⟩).1) d
theorem zeE {s:Str} (h:s.length≤70):FmI { fm0 s with out:=[]} 0:=by
  have h0:FmI ⟨Xz s,0,xR (Xz s),0,none,[],0,0,0,[]⟩ 0:=
    ⟨rfl,by unfold Xz;simp;omega,Int.le_refl _,by unfold Xz;simp;omega,⟨Int.le_refl _,(show(0:Int)≤2 by decide)⟩,⟨Int.le_refl _,(show(0:Int)≤12 by decide)⟩,Nat.zero_le _,(fun x hx=>by cases hx),(fun l e=>by cases e),(fun e=>absurd (show(0:Int)=5 from e) (by decide)),Nat.zero_le _⟩
  exact WQ (WQ h0 13) 10
theorem Uw (l:List Evt) (d:Evt) {i:Nat} (h:i<l.length):(l.take (i+1)).foldl prtS []=prtS ((l.take i).foldl prtS []) (l.getD i d):=by
  rw [List.take_succ_eq_append_getElem h,List.foldl_append]
  simp [h]
theorem zcd {l:List Evt} {d:Evt} {i:Nat} (h:i<l.length) (hg: ∀ j,j<l.length→GI l j d) (k:(l.getD i d).kind=2): ∃ z p,(l.take i).foldl prtS []=z++[p]∧p.bytes=[]∧(l.getD i d).bytes≠[]:=by
  obtain⟨hb,j,rfl,hj⟩:=(hg i h).1 k
  refine⟨(l.take j).foldl prtS [],(l.getD j d).part,?_,(hg j (by omega)).2 hj,hb⟩
  rw [Uw l d (show j<l.length by omega),prtS,if_pos hj]
theorem zef (l:List Evt): ∀ o:List Prt,(l.foldl prtS o).length≤o.length+l.length:=by
  induction l with
  |nil=>intro o;simp
  | cons e r ih=>
    intro o
    have h:=ih (prtS o e)
    have h2 :(prtS o e).length≤o.length+1:=by
      unfold prtS
      split
      · simp
      · split
        · split
          · rename_i p hp
            simp only [List.length_append,List.length_dropLast,List.length_singleton];omega
          · omega
        · omega
    rw [List.foldl_cons,List.length_cons];omega
theorem Xw: ∀ (b:Str) (f:Fm) (i:Nat),FmI f i→zG (wz f b).out+(wz f b).held.toNat≤zG f.out+f.held.toNat+2 * b.length
  |[],f,i,h=>by simp [wz]
  | c::r,f,i,h=>by
    have h1:=Xw r (fmF f c) (i+1) (zeA h c)
    have h2:=RH h c
    rw [List.length_cons]
    show zG (wz (fmF f c) r).out+(wz (fmF f c) r).held.toNat≤_
    omega
theorem TF {s b:Str} (h:s.length≤70):(zH (zq (fm0 s) b).out).length≤4 * b.length∧zG (zH (zq (fm0 s) b).out)≤1000+2 * b.length:=by
  have hI:=zeE h
  have h1:(zq (fm0 s) b).out.length≤4 * (0+b.length):=(RF b _ 0 hI).on
  have h2:zG (zq (fm0 s) b).out+(zq (fm0 s) b).held.toNat≤0+(fm0 s).held.toNat+2 * b.length:=Xw b _ 0 hI
  have h3:=Za (zq (fm0 s) b).out
  have h4:=Xm (zq (fm0 s) b).out
  have h5:(fm0 s).held<(fm0 s).mark.length:=hI.h1
  have h6:(fm0 s).mark.length≤1000:=hI.ml
  have h7:0≤(fm0 s).held:=hI.h0
  omega
end Go.Proofs.YtknaogelmckimaaDoor
namespace Go.Proofs.YtknaogelmckimaaDoor
open Go Go.Sep Go.Ab
set_option maxRecDepth 100000
def xG (o:List Evt) (f:Fm):Fm:= { f with out:=o++f.out}
theorem vY (o:List Evt) (f:Fm) (c:Int):zC (xG o f) c=xG o (zC f c):=by
  unfold zC xG
  simp
theorem RN (o:List Evt) (f:Fm):yc (xG o f)=xG o (yc f):=by
  unfold yc
  have e1:(xG o f).fields=f.fields:=rfl
  have e2:(xG o f).parts=f.parts:=rfl
  rw [e1,e2,vY,vY]
  split
  · rfl
  · split
    · rfl
    · simp [fmSk,xG]
theorem zbD (o:List Evt) (f:Fm) (s:Str):yH (xG o f) s=xG o (yH f s):=by
  unfold yH
  have e1:(xG o f).fields=f.fields:=rfl
  rw [e1,vY,vY,RN]
  repeat' split
  all_goals rfl
theorem zgm (o:List Evt) (f:Fm) (c:UInt8):fmF (xG o f) c=xG o (fmF f c):=by
  obtain⟨m,hd,bs,p,ln,fs,pa,sk,co,out⟩:=f
  have hl: ∀ (l:Option Ln) (s:Str),yH ⟨m,hd,bs,p,l,fs,pa,sk,co,o++out⟩ s=xG o (yH ⟨m,hd,bs,p,l,fs,pa,sk,co,out⟩ s):=fun l s=>zbD o ⟨m,hd,bs,p,l,fs,pa,sk,co,out⟩ s
  have hc:lnOf ⟨m,hd,bs,p,ln,fs,pa,sk,co,o++out⟩=lnOf ⟨m,hd,bs,p,ln,fs,pa,sk,co,out⟩:=rfl
  have hF: ∀ (l:Option Ln) (e:Int),zC ⟨m,hd,bs,p,l,fs,pa,sk,co,o++out⟩ e=xG o (zC ⟨m,hd,bs,p,l,fs,pa,sk,co,out⟩ e):=fun l e=>vY o ⟨m,hd,bs,p,l,fs,pa,sk,co,out⟩ e
  have hb:zS ⟨m,hd,bs,p,ln,fs,pa,sk,co,o++out⟩ c=xG o (zS ⟨m,hd,bs,p,ln,fs,pa,sk,co,out⟩ c):=by
    unfold zS
    simp only [hF]
    repeat' split
    all_goals first|rfl|(simp [xG];done)
  have hy:yA ⟨m,hd,bs,p,ln,fs,pa,sk,co,o++out⟩ c=xG o (yA ⟨m,hd,bs,p,ln,fs,pa,sk,co,out⟩ c):=by
    have ho:yX ⟨m,hd,bs,p,ln,fs,pa,sk,co,o++out⟩ c=yX ⟨m,hd,bs,p,ln,fs,pa,sk,co,out⟩ c:=rfl
    unfold yA
    rw [ho]
    simp only
    split
    · split
      · simp [xG,fmSk]
      · rfl
    · split
      · split
        · simp [xG,fmSk]
        · simp [xG,fmSk]
      · rfl
  show fmF ⟨m,hd,bs,p,ln,fs,pa,sk,co,o++out⟩ c=_
  unfold fmF
  simp only [hl,hc,hF,hb,hy]
  repeat' split
  all_goals rfl
theorem zcX (o:List Evt) (b:Str): ∀ (f:Fm),wz (xG o f) b=xG o (wz f b):=by
  induction b with
  |nil=>intro f;rfl
  |cons c r ih=>intro f;show wz (fmF (xG o f) c) r=_;rw [zgm];exact ih _
theorem zcY (f:Fm) (a b:Str):wz f (a++b)=wz (wz f a) b:=List.foldl_append
def yV (f:Fm):Fm:= { f with out:=[]}
theorem zbF (f:Fm) (a b:Str):yV (zq (zq f a) b)=yV (zq f (a++b))∧(zq f (a++b)).out=(zq f a).out++(zq (zq f a) b).out:=by
  have h1:zq f (a++b)=wz (zq f a) b:=zcY _ a b
  have h2:zq f a=xG (zq f a).out (yV (zq f a)):=by
    unfold xG yV;simp
  have h3:wz (zq f a) b=xG (zq f a).out (zq (zq f a) b):=by
    conv=>lhs;rw [h2]
    rw [zcX];rfl
  rw [h1,h3]
  exact⟨rfl,rfl⟩
theorem RG {p q:Fm} (h:yV p=yV q) (b:Str):zq p b=zq q b:=by
  show wz (yV p) b=wz (yV q) b
  rw [h]
theorem zhw {L:List Str} {i:Nat} (h:i<L.length):(L.take (i+1)).flatten=(L.take i).flatten++L.getD i []:=by
  rw [List.take_succ_eq_append_getElem h,List.flatten_append,show L.getD i []=L[i] by simp [h]];simp
theorem zax (L:List Str) (i:Nat):(L.take i).flatten.length≤L.flatten.length:=by
  have h:L.flatten=(L.take i).flatten++(L.drop i).flatten:=by rw [← List.flatten_append,List.take_append_drop]
  rw [h,List.length_append];omega
theorem zev {f:Fm} {i:Nat} {o:List Evt} (h:FmI f i) (k:o.length≤4 * i):FmI { f with out:=o} i:=
  ⟨h.bs,h.ml,h.h0,h.h1,h.s0,h.p0,h.fl,h.ff,h.lb,h.p5,k⟩
def EvN (l:List Evt):Prop:=∀ e ∈ l,e.head=hd0
theorem VT {a b:List Evt} (h:EvN a) (k:EvN b):EvN (a++b):=fun e m=>(List.mem_append.1 m).elim (h e) (k e)
theorem zdq {e:Evt} (h:e.head=hd0):EvN [e]:=fun x m=>by rw [List.mem_singleton.1 m];exact h
theorem zdr {o:List Evt} {e:Evt} (h:EvN (o++[e])):EvN (xK o e):=by
  rcases List.eq_nil_or_concat o with rfl|⟨z,x,rfl⟩
  · exact h
  · rw [List.concat_eq_append] at h ⊢
    rw [zV]
    split
    · exact VT (fun y m=>h y (by simp [m])) (zdq rfl)
    · exact h
theorem zaK: ∀ (l o:List Evt),EvN (o++l)→EvN (l.foldl xK o)
  |[],o,h=>by rw [List.append_nil] at h;exact h
  | e::l,o,h=>by
    rw [List.foldl_cons]
    refine zaK l _ ?_
    rw [show o++e::l=(o++[e])++l by simp] at h
    exact VT (zdr fun y m=>h y (List.mem_append_left _ m)) (fun y m=>h y (List.mem_append_right _ m))
theorem zh3 {f:Fm} (h:EvN f.out) (c:UInt8):EvN (fmF f c).out:=by
  have h1: ∀ (o:List Evt) (e:Evt),EvN o→e.head=hd0→EvN (o++[e]):=fun o e a b=>VT a (zdq b)
  have hb: ∀ g:Fm,EvN g.out→EvN (yc g).out:=fun g k=>by
    unfold yc
    split
    · exact h1 _ _ k rfl
    · split
      · exact h1 _ _ k rfl
      · exact h1 _ _ k rfl
  have hl: ∀ (g:Fm) (s:Str),EvN g.out→EvN (yH g s).out:=fun g s k=>by
    unfold yH
    split
    · exact hb g k
    · split
      · exact h1 _ _ k rfl
      · split
        · exact h1 _ _ k rfl
        · exact k
  unfold fmF
  split
  · unfold yA
    split
    · show EvN (if f.pos=6∧yX f c≠[] then f.out++[evB (yX f c)] else f.out)
      split
      · exact h1 _ _ h rfl
      · exact h
    · show EvN (if f.pos=6 then(if yX f c≠[] then f.out++[evB (yX f c),evO] else f.out++[evO]) else f.out)
      split
      · split
        · rw [show f.out++[evB (yX f c),evO]=f.out++[evB (yX f c)]++[evO] by simp]
          exact h1 _ _ (h1 _ _ h rfl) rfl
        · exact h1 _ _ h rfl
      · exact h
  · split
    · unfold zS
      split
      · exact h
      · split
        · exact h1 _ _ h rfl
        · split
          · exact h
          · split
            · exact h
            · exact h1 _ _ h rfl
    · split
      · split
        · exact h1 _ _ h rfl
        · exact h
      · split
        · split
          · exact h1 _ _ h rfl
          · split
            · exact hl _ _ h
            · exact h
        · exact h
theorem zcZ: ∀ (b:Str) (f:Fm),EvN f.out→EvN (wz f b).out
  |[],f,h=>h
  |c::r,f,h=>zcZ r (fmF f c) (zh3 h c)
theorem zau (f:Fm) (b:Str):EvN (zH (zq f b).out):=zaK _ [] (zcZ b { f with out:=[]} (fun e m=>by cases m))
structure FcI (s b:Str) (L:List Str) (i:Nat) (f:Fm) (al:List Evt):Prop where
  le:i≤L.length
  ri:FmI { f with out:=[]} (L.take i).flatten.length
  ba:yV f=yV (zq (fm0 s) (L.take i).flatten)
  jo:zH al=zH (zq (fm0 s) (L.take i).flatten).out
  su:zG al+f.held.toNat≤1000+2 * (L.take i).flatten.length
  ln:al.length≤i * (4 * b.length)
  ob:EvN al
theorem zh6 {s:Str} (hs:s.length≤70) (b:Str) (L:List Str):FcI s b L 0 (fm0 s) []:=by
  have hI:=zeE hs
  refine⟨Nat.zero_le _,by simpa using hI,rfl,rfl,?_,Nat.zero_le _,fun e h=>by cases h⟩
  have h5:(fm0 s).held<(fm0 s).mark.length:=hI.h1
  have h6:(fm0 s).mark.length≤1000:=hI.ml
  have h7:0≤(fm0 s).held:=hI.h0
  simp [zG];omega
theorem zdf {s b:Str} {L:List Str} {i:Nat} (hf:L.flatten=b) (k:i<L.length):(L.take i).flatten.length+(L.getD i []).length≤b.length:=by
  have h1:=zhw k
  have h2:=zax L (i+1)
  rw [h1,List.length_append,hf] at h2
  exact h2
theorem zeJ {s b:Str} {L:List Str} {i:Nat} {f:Fm} {al:List Evt} (h:FcI s b L i f al) (hf:L.flatten=b) (k:i<L.length) (hb:b.length≤20000):fmN0 f (L.getD i []):=by
  refine⟨_,h.ri,?_⟩
  have:=zdf (s:=s) hf k
  omega
theorem zh5 {s b:Str} {L:List Str} {i:Nat} {f:Fm} {al:List Evt} (h:FcI s b L i f al) (hf:L.flatten=b) (k:i<L.length) (hb:b.length≤20000):FcI s b L (i+1) (zq f (L.getD i [])) (al++zH (zq f (L.getD i [])).out):=by
  have h1:=zhw k
  have h2:=zdf (s:=s) hf k
  obtain⟨a1,a2⟩:=zbF (fm0 s) (L.take i).flatten (L.getD i [])
  rw [← RG h.ba] at a1 a2
  have hr:FmI (zq f (L.getD i [])) ((L.take i).flatten.length+(L.getD i []).length):=RF _ _ _ h.ri
  have hp:=Xw (L.getD i []) _ _ h.ri
  have hp:zG (zq f (L.getD i [])).out+(zq f (L.getD i [])).held.toNat≤zG []+f.held.toNat+2 * (L.getD i []).length:=hp
  have hz:zG []=0:=rfl
  have ho:=hr.on
  have hlen:(L.take (i+1)).flatten.length=(L.take i).flatten.length+(L.getD i []).length:=by rw [h1,List.length_append]
  have hj:=Za (zq f (L.getD i [])).out
  have hjs:=Xm (zq f (L.getD i [])).out
  refine⟨k,?_,?_,?_,?_,?_,?_⟩
  · rw [hlen];exact zev hr (Nat.zero_le _)
  · rw [a1,h1]
  · rw [UR,← WB,h.jo,WB,h1,a2]
  · rw [yR,hlen];have:=h.su;omega
  · rw [List.length_append,Nat.succ_mul];have:=h.ln;omega
  · exact VT h.ob (zau f _)
theorem zgr {s b:Str} {L:List Str} {f:Fm} {al:List Evt} (h:FcI s b L L.length f al) (hf:L.flatten=b):yV f=yV (zq (fm0 s) b)∧zH al=zH (zq (fm0 s) b).out:=by
  have h1:=h.ba
  have h2:=h.jo
  rw [List.take_length,hf] at h1 h2
  exact⟨h1,h2⟩
theorem zbN {p q:Fm} (h:yV p=yV q):yw p=yw q:=by
  have h1:(yV p).pos=(yV q).pos:=by rw [h]
  have h2:(yV p).code=(yV q).code:=by rw [h]
  have h1:p.pos=q.pos:=h1
  have h2:p.code=q.code:=h2
  unfold yw
  rw [h1,h2]
end Go.Proofs.YtknaogelmckimaaDoor
namespace Go.Proofs.YtknaogelmckimaaDoor
open Go Go.Sep Go.Ab
set_option maxRecDepth 100000
theorem zgt (s b:Str) (hneed:(s.length≤1000000∧b.length≤300000)∧yT s=true):Spc Tryd.prog 20 [.v (.one (.p (.str s))),.v (.one (.p (.list .byte b)))] [] (.ret (.tup [(.one (.p (.list .prt ((rX s b).1)))),(.one (.p (.int .i64 ((rX s b).2))))])) []:=by
  obtain⟨⟨hs,hb⟩,hm⟩:=hneed
  have hl:s.length≤70:=by unfold yT at hm;simp at hm;omega
  have hI0:=zeE hl
  have hg:=zfF s b ⟨0,⟨[],[],0,[],0⟩,[],⟨[],[],[],[]⟩,0⟩
  have hle:=TF (b:=b) hl
  have hN:fmN0 (fm0 s) b:=⟨0,hI0,by omega⟩
  generalize hr:rX s b=r
  unfold rX at hr
  rw [hm,if_neg (by decide)] at hr
  refine spcG zl mixed Tryd.func20 (by kernel_rfl) { cfgF with rl:=[0],nr:=[8],keep:=some [0,1,4,5,6,7,8,10,11,12,23,24,25,30]} [vX,vW,wG,wF,Xy,Xx] (by kernel_rfl) ?_
  intro I X hI hX
  refine zi (let y0:=I.hid (α:=(List Go.Ab.Evt)) (zH (Go.Ab.Fm.out (zq (I.hid (α:=Go.Ab.Fm) (fm0 s)) b)));.need (I.hid (α:=(Prop)) (And (LE.le (List.length s) 140737488355328) (Eq (yT s) Bool.true))) (.br (I.bnot (I.ieq 0 0)) (.fin (.ret (.tup [(.one (.p (.list .prt ([]:List Go.Ab.Prt)))),(.one (.p (.int .i64 0)))])) []) (.need (I.hid (α:=(Prop)) (fmN0 (I.hid (α:=Go.Ab.Fm) (fm0 s)) b)) (.code 0 [1,1,1,1,0,1,0] ⟨[(25,(.v (.one (.p (.int .i64 0))))),(24,(.v (.one (.p (.int .i64 (I.len (α:=Go.Ab.Evt) y0)))))),(23,(.v (.one (.row 2)))),(8,(.v (.one (.row 1)))),(7,(.v (.one (.p (.int .i64 0))))),(6,(.v (.one (.ptr 0 0)))),(5,(.v (.one (.p (.int .i64 0))))),(4,(.v (.one .nilS))),(0,(.v (.one (.p (.str s))))),(1,(.v (.one (.p (.list .byte b)))))],[(.abs (.fm (I.hid (α:=Go.Ab.Fm) (zq (I.hid (α:=Go.Ab.Fm) (fm0 s)) b)))),(.row .prt 39 ([]:List Go.Ab.Prt)),(.row .evt 63 y0)],62,none⟩)))) (by kernel_rfl) ?_
  simp only [zu]
  generalize fm0 s=F0 at *
  refine⟨?_,fun c=> ?_,fun _=>⟨?_,?_⟩⟩
  · subst hI;exact⟨by omega,hm⟩
  · subst hI;exact absurd c (by decide)
  · subst hI;exact hN
  rw [show I.hid F0=F0 by subst hI;rfl]
  rw [show I.hid (zq F0 b)=zq F0 b by subst hI;rfl]
  generalize zq F0 b=F at *
  rw [show I.hid (zH F.out)=zH F.out by subst hI;rfl]
  generalize zH F.out=L at *
  refine zL hI zl mixed [vX,vW,wG,wF,Xy,Xx] hX [6,8,23,24,25] (fun(g:Nat × List Prt)=>match g with|(i,o)=>i≤L.length∧o=(L.take i).foldl prtS []) (fun(g:Nat × List Prt)=>match g with|(i,o)=>⟨[(6,.v (.one (.ptr 0 0))),(8,.v (.one (.row 1))),(23,.v (.one (.row 2))),(24,.v (.one (.p (.int .i64 ((I.len (α:=Evt) L)))))),(25,.v (.one (.p (.int .i64 i))))],[.abs (.fm F),.row .prt 39 o,.row .evt 63 L],62,none⟩) (fun(g:Nat × List Prt)=>match g with|(i,o)=>L.length - i) (0,[]) (by kernel_rfl) (by kernel_rfl) ?_ ?_
  · exact⟨Nat.zero_le _,rfl⟩
  rintro⟨i,o⟩ ⟨h1,h2⟩ A hA
  simp only at hA h1 h2
  refine zi (let y0:=I.get (α:=Go.Ab.Evt) L (Go.Ab.Evt.mk (0:Int) (Hd.mk ([]:Str) ([]:Str) (0:Int) ([]:List Fld) (0:Int)) ([]:Str) (Go.Ab.Prt.mk ([]:Str) ([]:Str) ([]:Str) ([]:Str)) (0:Int)) (Nat.cast i);let y6:=I.sub (I.len (α:=Go.Ab.Prt) o) 1;let y1:=I.get (α:=Go.Ab.Prt) o (Go.Ab.Prt.mk ([]:Str) ([]:Str) ([]:Str) ([]:Str)) y6;let y2:=I.inb y6 (I.len (α:=Go.Ab.Prt) o);let y3:=I.inr Go.IntKind.i64 (I.add (Nat.cast i) 1);let y4:=I.inb (Nat.cast i) (I.len (α:=Go.Ab.Evt) L);let y5:=I.len (α:=UInt8) (Go.Ab.Evt.bytes y0);.br (I.ilt (Nat.cast i) (I.len (α:=Go.Ab.Evt) L)) (.need y4 (.need y4 (.br (I.ieq (Go.Ab.Evt.kind y0) 5) (.need (I.few (I.add (I.len (α:=Go.Ab.Prt) o) (I.len (α:=Go.Ab.Prt) ([(Go.Ab.Prt.mk (Go.Ab.Prt.name (Go.Ab.Evt.part y0)) (Go.Ab.Prt.file (Go.Ab.Evt.part y0)) (Go.Ab.Prt.type (Go.Ab.Evt.part y0)) (Go.Ab.Prt.bytes (Go.Ab.Evt.part y0)))]:List Go.Ab.Prt))) 100000000) (.need y3 (.need (A ⟨[(6,(.v (.one (.ptr 0 0)))),(8,(.v (.one (.row 1)))),(23,(.v (.one (.row 2)))),(24,(.v (.one (.p (.int .i64 (I.len (α:=Go.Ab.Evt) L)))))),(25,(.v (.one (.p (.int .i64 (I.add (Nat.cast i) 1))))))],[(.abs (.fm F)),(.row .prt 39 (I.app (α:=Go.Ab.Prt) o ([(Go.Ab.Prt.mk (Go.Ab.Prt.name (Go.Ab.Evt.part y0)) (Go.Ab.Prt.file (Go.Ab.Evt.part y0)) (Go.Ab.Prt.type (Go.Ab.Evt.part y0)) (Go.Ab.Prt.bytes (Go.Ab.Evt.part y0)))]:List Go.Ab.Prt))),(.row .evt 63 L)],62,none⟩) .qed))) (.br (I.ieq (Go.Ab.Evt.kind y0) 2) (.need (I.inr Go.IntKind.i64 y6) (.need y2 (.need y2 (.need (I.same (α:=Int) (I.len (α:=UInt8) (Go.Ab.Prt.bytes y1)) 0) (.need (I.few y5 140737488355328) (.need (I.nne y5) (.need y2 (.need y3 (.need (A ⟨[(6,(.v (.one (.ptr 0 0)))),(8,(.v (.one (.row 1)))),(23,(.v (.one (.row 2)))),(24,(.v (.one (.p (.int .i64 (I.len (α:=Go.Ab.Evt) L)))))),(25,(.v (.one (.p (.int .i64 (I.add (Nat.cast i) 1))))))],[(.abs (.fm F)),(.row .prt 39 (I.set (α:=Go.Ab.Prt) o y6 (Go.Ab.Prt.mk (Go.Ab.Prt.name y1) (Go.Ab.Prt.file y1) (Go.Ab.Prt.type y1) (Go.Ab.Evt.bytes y0)))),(.row .evt 63 L)],62,none⟩) .qed))))))))) (.need y3 (.need (A ⟨[(6,(.v (.one (.ptr 0 0)))),(8,(.v (.one (.row 1)))),(23,(.v (.one (.row 2)))),(24,(.v (.one (.p (.int .i64 (I.len (α:=Go.Ab.Evt) L)))))),(25,(.v (.one (.p (.int .i64 (I.add (Nat.cast i) 1))))))],[(.abs (.fm F)),(.row .prt 39 o),(.row .evt 63 L)],62,none⟩) .qed)))))) (.need (I.hid (α:=(Prop)) True) (.br (I.bnot (I.ieq (I.hid (α:=Int) (yw F)) 0)) (.fin (.ret (.tup [(.one (.p (.list .prt ([]:List Go.Ab.Prt)))),(.one (.p (.int .i64 (I.hid (α:=Int) (yw F)))))])) []) (.fin (.ret (.tup [(.one (.p (.list .prt o))),(.one (.p (.int .i64 0)))])) [])))) (by kernel_rfl) ?_
  simp only [zu]
  subst hI
  simp only [nrmA,nrmB,nrlB,reduceCtorEq]
  have hlo:=zef (L.take i) []
  rw [← h2,List.length_take,List.length_nil] at hlo
  have hb2:i<L.length→_→_:=fun h k=>zcd h hg k
  have hs2:i<L.length→_:=fun h=>Uw L ⟨0,⟨[],[],0,[],0⟩,[],⟨[],[],[],[]⟩,0⟩ h
  have hsum:i<L.length→(L.getD i ⟨0,⟨[],[],0,[],0⟩,[],⟨[],[],[],[]⟩,0⟩).bytes.length≤zG L:=fun h=>by
    refine XH ?_
    rw [show L.getD i ⟨0,⟨[],[],0,[],0⟩,[],⟨[],[],[],[]⟩,0⟩=L[i] by simp [h]]
    exact List.getElem_mem h
  rw [← h2] at hb2 hs2
  have hgo:i<L.length→_:=fun h=>hA (i+1,prtS o (L.getD i ⟨0,⟨[],[],0,[],0⟩,[],⟨[],[],[],[]⟩,0⟩)) ⟨by simp only;omega,by simp only;rw [hs2 h]⟩ (by simp only;omega)
  have hend: ¬ i<L.length→L.foldl prtS []=o:=fun h=>by rw [h2,List.take_of_length_le (by omega)]
  clear hg hs2 hA
  generalize L.getD i ⟨0,⟨[],[],0,[],0⟩,[],⟨[],[],[],[]⟩,0⟩=x at *
  simp only [Int.natCast_add,Int.natCast_one] at hgo
  refine⟨fun c=> ?_,fun c=> ?_⟩
  · have hgo:=hgo (by omega)
    have hb2:=hb2 (by omega)
    have hsum:=hsum (by omega)
    by_cases k5:x.kind=5
    · rw [prtS,if_pos k5] at hgo
      (repeat' (first|refine And.intro ?_ ?_|intro _))<;>first|omega|exact True.intro|exact False.elim ‹False›|skip
      all_goals first
        |omega
        |(simp only [List.length_singleton];omega)
        |exact hgo
        |exact absurd k5 ‹_›
    · by_cases k2:x.kind=2
      · obtain⟨z,p,hz,hp,hxb⟩:=hb2 k2
        have hxb:0<x.bytes.length:=by cases hq:x.bytes with|nil=>exact absurd hq hxb|cons _ _=>simp
        subst hz
        rw [show prtS (z++[p]) x=z++[⟨p.name,p.file,p.type,x.bytes⟩] by unfold prtS;rw [if_neg k5,if_pos k2];simp [hp]] at hgo
        have e1:(((z++[p]).length:Int) - 1).toNat=z.length:=by rw [List.length_append,List.length_singleton];omega
        have e2:(z++[p]).getD z.length ⟨[],[],[],[]⟩=p:=by simp
        have e3: ∀ q,(z++[p]).set z.length q=z++[q]:=fun q=>by simp
        simp only [e1,e2,e3,hp]
        simp only [List.length_append,List.length_singleton,List.length_nil]
        clear e1 e2 e3
        rw [List.length_append,List.length_singleton] at hlo
        (repeat' (first|refine And.intro ?_ ?_|intro _))<;>first|omega|exact True.intro|exact False.elim ‹False›|skip
        all_goals first
          |omega
          |exact hgo
          |exact absurd k2 ‹_›
          |exact absurd ‹x.kind=5› k5
      · rw [prtS,if_neg k5,if_neg k2] at hgo
        (repeat' (first|refine And.intro ?_ ?_|intro _))<;>first|omega|exact True.intro|exact False.elim ‹False›|skip
        all_goals first
          |omega
          |exact hgo
          |exact absurd ‹x.kind=5› k5
          |exact absurd ‹x.kind=2› k2
  · have he:=hend (by omega)
    rw [he] at hr
    subst hr
    (repeat' (first|refine And.intro ?_ ?_|intro _))<;>first|omega|exact True.intro|exact False.elim ‹False›|skip
    all_goals first
      |omega
      |(rw [if_pos ‹¬ yw F=0›];done)
      |(rw [if_neg (fun h=>h ‹yw F=0›)];done)
end Go.Proofs.YtknaogelmckimaaDoor
namespace Go.Proofs.YtknaogelmckimaaDoor
open Go Go.Sep Go.Ab
set_option maxRecDepth 100000
theorem zgi (s:Str) (hneed:s.length≤140737488355328∧yT s=false):Spc Tryd.prog 7 [.v (.one (.p (.str s)))] [] (.ret (.tup [(.one (.p (.val (.pointer none)))),(.one (.p (.int .i64 5)))])) []:=zc4 s hneed
def Zh (I:Alg) (args:List D) (hp:List HO):Option CT:=match args,hp with
  |[.v (.one (.p (.str s)))],[]=>(fun(s:Str)=>(some (.one ⟨I.hid (s.length≤140737488355328∧yT s=false),(.ret (.tup [(.one (.p (.val (.pointer none)))),(.one (.p (.int .i64 5)))])),[]⟩):Option CT)) s
  |_,_=>none
theorem Tv:zA Tryd.prog 7 (Zh alg):=by
  intro args hp r h
  unfold Zh at h
  split at h
  · cases h;exact fun hn=>zgi _ hn
  · cases h
def zc3:Know Tryd.prog:=⟨7,Zh,Tv⟩
def zc2:Know Tryd.prog:=⟨7,fun I=>zB I (Zh I),zf Tv⟩
theorem zey (b:Str) (hneed:False):Spc Tryd.prog 9 [.v (.one (.p (.val (.pointer none)))),.v (.one (.p (.list .byte b)))] [] (.ret (.v (.one (.row 0)))) [.row .evt 63 (([]:List Evt))]:=hneed.elim
def rF (I:Alg) (args:List D) (hp:List HO):Option CT:=match args,hp with
  |[.v (.one (.p (.val (.pointer none)))),.v (.one (.p (.list .byte b)))],[]=>(fun(b:Str)=>(some (.one ⟨I.hid (False),(.ret (.v (.one (.row 0)))),[.row .evt 63 (I.hid (([]:List Evt)))]⟩):Option CT)) b
  |_,_=>none
theorem WR:zA Tryd.prog 9 (rF alg):=by
  intro args hp r h
  unfold rF at h
  split at h
  · cases h;exact fun hn=>zey _ hn
  · cases h
def rE:Know Tryd.prog:=⟨9,rF,WR⟩
def rD:Know Tryd.prog:=⟨9,fun I=>zB I (rF I),zf WR⟩
theorem zgs (s b:Str) (hneed:(s.length≤1000000∧b.length≤300000)∧yT s=false):Spc Tryd.prog 20 [.v (.one (.p (.str s))),.v (.one (.p (.list .byte b)))] [] (.ret (.tup [(.one (.p (.list .prt ((rX s b).1)))),(.one (.p (.int .i64 ((rX s b).2))))])) []:=by
  obtain⟨⟨hs,hb⟩,hm⟩:=hneed
  generalize hr:rX s b=r
  unfold rX at hr
  rw [if_pos hm] at hr
  subst hr
  refine spcG zl mixed Tryd.func20 (by kernel_rfl) { cfgF with rl:=[0],nr:=[8],keep:=some [0,1,4,5,6,7,8,10,11,12,23,24,25,30]} [vX,vW,rE,rD,wG,wF,zc3,zc2] (by kernel_rfl) ?_
  intro I X hI hX
  refine zi (let y0:=I.hid (α:=(List Go.Ab.Evt)) ([]:List Go.Ab.Evt);.need (I.hid (α:=(Prop)) (And (LE.le (List.length s) 140737488355328) (Eq (yT s) Bool.false))) (.br (I.bnot (I.ieq 5 0)) (.fin (.ret (.tup [(.one (.p (.list .prt ([]:List Go.Ab.Prt)))),(.one (.p (.int .i64 5)))])) []) (.need (I.hid (α:=(Prop)) False) (.code 0 [1,1,1,1,0,1,0] ⟨[(25,(.v (.one (.p (.int .i64 0))))),(24,(.v (.one (.p (.int .i64 (I.len (α:=Go.Ab.Evt) y0)))))),(23,(.v (.one (.row 1)))),(8,(.v (.one (.row 0)))),(7,(.v (.one (.p (.int .i64 5))))),(6,(.v (.one (.p (.val (.pointer .none)))))),(5,(.v (.one (.p (.int .i64 0))))),(4,(.v (.one .nilS))),(0,(.v (.one (.p (.str s))))),(1,(.v (.one (.p (.list .byte b)))))],[(.row .prt 39 ([]:List Go.Ab.Prt)),(.row .evt 63 y0)],62,none⟩)))) (by kernel_rfl) ?_
  simp only [zu]
  subst hI
  simp only [nrmA,nrmB,nrlB,reduceCtorEq]
  exact⟨⟨by omega,hm⟩,fun _=>trivial,by decide⟩
theorem zhA (s b:Str) (hneed:s.length≤1000000∧b.length≤300000):Spc Tryd.prog 20 [.v (.one (.p (.str s))),.v (.one (.p (.list .byte b)))] [] (.ret (.tup [(.one (.p (.list .prt ((rX s b).1)))),(.one (.p (.int .i64 ((rX s b).2))))])) []:=by
  cases hm:yT s with
  |true=>exact zgt s b ⟨hneed,hm⟩
  |false=>exact zgs s b ⟨hneed,hm⟩
def YN (I:Alg) (args:List D) (hp:List HO):Option CT:=match args,hp with
  |[.v (.one (.p (.str s))),.v (.one (.p (.list .byte b)))],[]=>(fun(s b:Str)=>(some (.one ⟨I.hid (s.length≤1000000∧b.length≤300000),(.ret (.tup [(.one (.p (.list .prt (I.hid ((rX s b).1))))),(.one (.p (.int .i64 (I.hid ((rX s b).2)))))])),[]⟩):Option CT)) s b
  |_,_=>none
theorem zaE:zA Tryd.prog 20 (YN alg):=by
  intro args hp r h
  unfold YN at h
  split at h
  · cases h;exact fun hn=>zhA _ _ hn
  · cases h
def zeL:Know Tryd.prog:=⟨20,YN,zaE⟩
def zeK:Know Tryd.prog:=⟨20,fun I=>zB I (YN I),zf zaE⟩
def begB:Str:=[45,45,88,13,10,67,111,110,116,101,110,116,45,68,105,115,112,111,115,105,116,105,111,110,58,32,102,111,114,109,45,100,97,116,97,59,32,110,97,109,101,61,97,13,10,13,10,98,13,10,45,45,88,45,45]
theorem zdG:rX [88] begB=([⟨[97],[],[],[98]⟩],0):=by decide+kernel
theorem zbz:Spc Tryd.prog 6 [] [] (.ret (.v (.one (.p (.bool true))))) []:=by
  refine spcG zl mixed Tryd.func6 (by kernel_rfl) { fz:=[20],keep:=some [0,1,2]} [zaC,zaB,VO,VN,zeL,zeK] (by kernel_rfl) ?_
  intro I X hI hX
  refine zi (let y0:=I.hid (α:=(List Go.Ab.Prt)) (Prod.fst (rX ([88]:Str) ([(I.i2b 45),(I.i2b 45),(I.i2b 88),(I.i2b 13),(I.i2b 10),(I.i2b 67),(I.i2b 111),(I.i2b 110),(I.i2b 116),(I.i2b 101),(I.i2b 110),(I.i2b 116),(I.i2b 45),(I.i2b 68),(I.i2b 105),(I.i2b 115),(I.i2b 112),(I.i2b 111),(I.i2b 115),(I.i2b 105),(I.i2b 116),(I.i2b 105),(I.i2b 111),(I.i2b 110),(I.i2b 58),(I.i2b 32),(I.i2b 102),(I.i2b 111),(I.i2b 114),(I.i2b 109),(I.i2b 45),(I.i2b 100),(I.i2b 97),(I.i2b 116),(I.i2b 97),(I.i2b 59),(I.i2b 32),(I.i2b 110),(I.i2b 97),(I.i2b 109),(I.i2b 101),(I.i2b 61),(I.i2b 97),(I.i2b 13),(I.i2b 10),(I.i2b 13),(I.i2b 10),(I.i2b 98),(I.i2b 13),(I.i2b 10),(I.i2b 45),(I.i2b 45),(I.i2b 88),(I.i2b 45),(I.i2b 45)]:Str)));let y1:=I.inb 0 (I.len (α:=Go.Ab.Prt) y0);let y2:=I.get (α:=Go.Ab.Prt) y0 (Go.Ab.Prt.mk ([]:Str) ([]:Str) ([]:Str) ([]:Str)) 0;let y3:=([47,46,46,47,46,97,34]:Str);.need (I.inr Go.IntKind.u8 45) (.need (I.inr Go.IntKind.u8 45) (.need (I.inr Go.IntKind.u8 88) (.need (I.inr Go.IntKind.u8 13) (.need (I.inr Go.IntKind.u8 10) (.need (I.inr Go.IntKind.u8 67) (.need (I.inr Go.IntKind.u8 111) (.need (I.inr Go.IntKind.u8 110) (.need (I.inr Go.IntKind.u8 116) (.need (I.inr Go.IntKind.u8 101) (.need (I.inr Go.IntKind.u8 110) (.need (I.inr Go.IntKind.u8 116) (.need (I.inr Go.IntKind.u8 45) (.need (I.inr Go.IntKind.u8 68) (.need (I.inr Go.IntKind.u8 105) (.need (I.inr Go.IntKind.u8 115) (.need (I.inr Go.IntKind.u8 112) (.need (I.inr Go.IntKind.u8 111) (.need (I.inr Go.IntKind.u8 115) (.need (I.inr Go.IntKind.u8 105) (.need (I.inr Go.IntKind.u8 116) (.need (I.inr Go.IntKind.u8 105) (.need (I.inr Go.IntKind.u8 111) (.need (I.inr Go.IntKind.u8 110) (.need (I.inr Go.IntKind.u8 58) (.need (I.inr Go.IntKind.u8 32) (.need (I.inr Go.IntKind.u8 102) (.need (I.inr Go.IntKind.u8 111) (.need (I.inr Go.IntKind.u8 114) (.need (I.inr Go.IntKind.u8 109) (.need (I.inr Go.IntKind.u8 45) (.need (I.inr Go.IntKind.u8 100) (.need (I.inr Go.IntKind.u8 97) (.need (I.inr Go.IntKind.u8 116) (.need (I.inr Go.IntKind.u8 97) (.need (I.inr Go.IntKind.u8 59) (.need (I.inr Go.IntKind.u8 32) (.need (I.inr Go.IntKind.u8 110) (.need (I.inr Go.IntKind.u8 97) (.need (I.inr Go.IntKind.u8 109) (.need (I.inr Go.IntKind.u8 101) (.need (I.inr Go.IntKind.u8 61) (.need (I.inr Go.IntKind.u8 97) (.need (I.inr Go.IntKind.u8 13) (.need (I.inr Go.IntKind.u8 10) (.need (I.inr Go.IntKind.u8 13) (.need (I.inr Go.IntKind.u8 10) (.need (I.inr Go.IntKind.u8 98) (.need (I.inr Go.IntKind.u8 13) (.need (I.inr Go.IntKind.u8 10) (.need (I.inr Go.IntKind.u8 45) (.need (I.inr Go.IntKind.u8 45) (.need (I.inr Go.IntKind.u8 88) (.need (I.inr Go.IntKind.u8 45) (.need (I.inr Go.IntKind.u8 45) (.need (I.inb 0 (I.len (α:=UInt8) ([(I.i2b 45),(I.i2b 45),(I.i2b 88),(I.i2b 13),(I.i2b 10),(I.i2b 67),(I.i2b 111),(I.i2b 110),(I.i2b 116),(I.i2b 101),(I.i2b 110),(I.i2b 116),(I.i2b 45),(I.i2b 68),(I.i2b 105),(I.i2b 115),(I.i2b 112),(I.i2b 111),(I.i2b 115),(I.i2b 105),(I.i2b 116),(I.i2b 105),(I.i2b 111),(I.i2b 110),(I.i2b 58),(I.i2b 32),(I.i2b 102),(I.i2b 111),(I.i2b 114),(I.i2b 109),(I.i2b 45),(I.i2b 100),(I.i2b 97),(I.i2b 116),(I.i2b 97),(I.i2b 59),(I.i2b 32),(I.i2b 110),(I.i2b 97),(I.i2b 109),(I.i2b 101),(I.i2b 61),(I.i2b 97),(I.i2b 13),(I.i2b 10),(I.i2b 13),(I.i2b 10),(I.i2b 98),(I.i2b 13),(I.i2b 10),(I.i2b 45),(I.i2b 45),(I.i2b 88),(I.i2b 45),(I.i2b 45)]:Str))) (.need (I.hid (α:=(Prop)) (And (LE.le (List.length ([88]:Str)) 1000000) (LE.le (List.length ([(I.i2b 45),(I.i2b 45),(I.i2b 88),(I.i2b 13),(I.i2b 10),(I.i2b 67),(I.i2b 111),(I.i2b 110),(I.i2b 116),(I.i2b 101),(I.i2b 110),(I.i2b 116),(I.i2b 45),(I.i2b 68),(I.i2b 105),(I.i2b 115),(I.i2b 112),(I.i2b 111),(I.i2b 115),(I.i2b 105),(I.i2b 116),(I.i2b 105),(I.i2b 111),(I.i2b 110),(I.i2b 58),(I.i2b 32),(I.i2b 102),(I.i2b 111),(I.i2b 114),(I.i2b 109),(I.i2b 45),(I.i2b 100),(I.i2b 97),(I.i2b 116),(I.i2b 97),(I.i2b 59),(I.i2b 32),(I.i2b 110),(I.i2b 97),(I.i2b 109),(I.i2b 101),(I.i2b 61),(I.i2b 97),(I.i2b 13),(I.i2b 10),(I.i2b 13),(I.i2b 10),(I.i2b 98),(I.i2b 13),(I.i2b 10),(I.i2b 45),(I.i2b 45),(I.i2b 88),(I.i2b 45),(I.i2b 45)]:Str)) 300000))) (.br (I.ieq (I.hid (α:=Int) (Prod.snd (rX ([88]:Str) ([(I.i2b 45),(I.i2b 45),(I.i2b 88),(I.i2b 13),(I.i2b 10),(I.i2b 67),(I.i2b 111),(I.i2b 110),(I.i2b 116),(I.i2b 101),(I.i2b 110),(I.i2b 116),(I.i2b 45),(I.i2b 68),(I.i2b 105),(I.i2b 115),(I.i2b 112),(I.i2b 111),(I.i2b 115),(I.i2b 105),(I.i2b 116),(I.i2b 105),(I.i2b 111),(I.i2b 110),(I.i2b 58),(I.i2b 32),(I.i2b 102),(I.i2b 111),(I.i2b 114),(I.i2b 109),(I.i2b 45),(I.i2b 100),(I.i2b 97),(I.i2b 116),(I.i2b 97),(I.i2b 59),(I.i2b 32),(I.i2b 110),(I.i2b 97),(I.i2b 109),(I.i2b 101),(I.i2b 61),(I.i2b 97),(I.i2b 13),(I.i2b 10),(I.i2b 13),(I.i2b 10),(I.i2b 98),(I.i2b 13),(I.i2b 10),(I.i2b 45),(I.i2b 45),(I.i2b 88),(I.i2b 45),(I.i2b 45)]:Str)))) 0) (.br (I.ieq (I.len (α:=Go.Ab.Prt) y0) 1) (.need y1 (.need y1 (.br (I.seq (Go.Ab.Prt.name y2) ([97]:Str)) (.need y1 (.need y1 (.br (I.seq (Go.Ab.Prt.bytes y2) ([98]:Str)) (.need (I.hid (α:=(Prop)) (LE.le (List.length y3) 1000000)) (.br (I.seq (I.hid (α:=Str) (Y4 y3)) ([97,95]:Str)) (.need (I.hid (α:=(Prop)) (LE.le (List.length ([88]:Str)) 140737488355328)) (.fin (.ret (.v (.one (.p (.bool (I.hid (α:=Bool) (yT ([88]:Str)))))))) [])) (.fin (.ret (.v (.one (.p (.bool Bool.false))))) []))) (.fin (.ret (.v (.one (.p (.bool Bool.false))))) [])))) (.fin (.ret (.v (.one (.p (.bool Bool.false))))) [])))) (.fin (.ret (.v (.one (.p (.bool Bool.false))))) [])) (.fin (.ret (.v (.one (.p (.bool Bool.false))))) []))))))))))))))))))))))))))))))))))))))))))))))))))))))))))) (by kernel_rfl) ?_
  simp only [zu]
  subst hI
  simp only [nrmA,nrmB,nrlB,reduceCtorEq]
  generalize hR:rX [88] _=R
  have hR:=hR.symm.trans zdG
  subst hR
  have hs:Y4 [47,46,46,47,46,97,34]=[97,95]:=by decide+kernel
  have hm:yT [88]=true:=by decide+kernel
  simp only [hs,hm]
  (repeat' (first|refine And.intro ?_ ?_|intro _))<;>first|omega|exact True.intro|exact False.elim ‹False›|skip
  all_goals first
    |omega
    |decide+kernel
    |(simp;done)
def vC (I:Alg) (args:List D) (hp:List HO):Option CT:=match args,hp with
  |[],[]=>(fun(_:Unit)=>(some (.one ⟨I.hid (True),(.ret (.v (.one (.p (.bool true))))),[]⟩):Option CT)) ()
  |_,_=>none
theorem Yg:zA Tryd.prog 6 (vC alg):=by
  intro args hp r h
  unfold vC at h
  split at h
  · cases h;exact fun hn=>zbz
  · cases h
def tV:Know Tryd.prog:=⟨6,vC,Yg⟩
def tN:Know Tryd.prog:=⟨6,fun I=>zB I (vC I),zf Yg⟩
end Go.Proofs.YtknaogelmckimaaDoor
namespace Go.Proofs.YtknaogelmckimaaDoor
open Go Go.Sep Go.Ab
set_option maxRecDepth 100000
theorem TM {l m:List Fld} {i:Nat} (h1:i<l.length) (h2:i<m.length):(decide (l.drop i=m.drop i))=(decide (l.getD i ⟨[],[]⟩=m.getD i ⟨[],[]⟩)&&decide (l.drop (i+1)=m.drop (i+1))):=by
  have e1:l.getD i ⟨[],[]⟩=l[i]:=by simp [h1]
  have e2:m.getD i ⟨[],[]⟩=m[i]:=by simp [h2]
  rw [e1,e2,Bool.eq_iff_iff,Bool.and_eq_true,decide_eq_true_iff,decide_eq_true_iff,decide_eq_true_iff,List.drop_eq_getElem_cons h1,List.drop_eq_getElem_cons h2,List.cons.injEq]
theorem zgp {x y:Fld} (h1:x.name=y.name) (h2:x.value=y.value):x=y:=by cases x;cases y;simp_all
theorem zgR (l m:List Fld) (hneed:l.length≤140737488355328∧m.length≤140737488355328):Spc Tryd.prog 48 [.v (.one (.p (.list .fld l))),.v (.one (.p (.list .fld m)))] [] (.ret (.v (.one (.p (.bool ((decide (l=m)))))))) []:=by
  obtain⟨hl,hm⟩:=hneed
  generalize hr:decide (l=m)=r
  refine spcG zl mixed Tryd.func48 (by kernel_rfl) { keep:=some [0,1,4,5]} [] (by kernel_rfl) ?_
  intro I X hI hX
  refine zi (.br (I.bnot (I.ieq (I.len (α:=Fld) l) (I.len (α:=Fld) m))) (.fin (.ret (.v (.one (.p (.bool Bool.false))))) []) (.code 0 [1,1,0,1,0] ⟨[(5,(.v (.one (.p (.int .i64 0))))),(4,(.v (.one (.p (.val (.bool .false)))))),(0,(.v (.one (.p (.list .fld l))))),(1,(.v (.one (.p (.list .fld m)))))],[],26,none⟩)) (by kernel_rfl) ?_
  simp only [zu]
  refine⟨fun c1=> ?_,fun c1=> ?_⟩
  · subst hI
    simp only [nrmA,nrmB] at c1
    simp only [nrmA,nrmB]
    rw [← hr]
    exact(decide_eq_false fun e=>c1 (by rw [e])).symm
  have hlm:l.length=m.length:=by
    subst hI
    simp only [nrmA,nrmB] at c1
    omega
  refine zL hI zl mixed [] hX [0,1,5] (fun(i:Nat)=>i≤l.length∧r=decide (l.drop i=m.drop i)) (fun(i:Nat)=>⟨[(0,.v (.one (.p (.list .fld l)))),(1,.v (.one (.p (.list .fld m)))),(5,.v (.one (.p (.int .i64 i))))],[],26,none⟩) (fun(i:Nat)=>l.length - i) 0 (by kernel_rfl) (by kernel_rfl) ?_ ?_
  · exact⟨Nat.zero_le _,hr.symm⟩
  rintro i ⟨h1,h2⟩ A hA
  refine zi (let y0:=I.get (α:=Fld) l (Fld.mk ([]:Str) ([]:Str)) (Nat.cast i);let y1:=I.get (α:=Fld) m (Fld.mk ([]:Str) ([]:Str)) (Nat.cast i);let y2:=I.inb (Nat.cast i) (I.len (α:=Fld) l);let y3:=I.inb (Nat.cast i) (I.len (α:=Fld) m);.br (I.ilt (Nat.cast i) (I.len (α:=Fld) l)) (.need y2 (.need y2 (.need y3 (.need y3 (.br (I.bnot (I.ban (I.seq (Fld.name y0) (Fld.name y1)) (I.seq (Fld.value y0) (Fld.value y1)))) (.fin (.ret (.v (.one (.p (.bool Bool.false))))) []) (.need (I.inr Go.IntKind.i64 (I.add (Nat.cast i) 1)) (.need (A ⟨[(0,(.v (.one (.p (.list .fld l))))),(1,(.v (.one (.p (.list .fld m))))),(5,(.v (.one (.p (.int .i64 (I.add (Nat.cast i) 1))))))],[],26,none⟩) .qed))))))) (.fin (.ret (.v (.one (.p (.bool Bool.true))))) [])) (by kernel_rfl) ?_
  simp only [zu]
  subst hI
  simp only [nrmA,nrmB,nrlB,reduceCtorEq]
  have hd:i<l.length→_:=fun h=>TM (l:=l) (m:=m) (i:=i) h (by omega)
  have hend: ¬ i<l.length→r=true:=fun h=>by
    rw [h2,List.drop_of_length_le (by omega),List.drop_of_length_le (by omega)];simp
  generalize l.getD i ⟨[],[]⟩=x at *
  generalize m.getD i ⟨[],[]⟩=y at *
  have hx: ¬ x=y→i<l.length→r=false:=fun h hi=>by rw [h2,hd hi,decide_eq_false h,Bool.false_and]
  have hy:x=y→i<l.length→r=decide (l.drop (i+1)=m.drop (i+1)):=fun h hi=>by rw [h2,hd hi,decide_eq_true h,Bool.true_and]
  (repeat' (first|refine And.intro ?_ ?_|intro _))<;>first|omega|exact True.intro|exact False.elim ‹False›|skip
  all_goals first
    |omega
    |(exact(hx (by rintro rfl;simp_all) (by omega)).symm)
    |(rw [hx (by rintro rfl;simp_all) (by omega)])
    |exact hA (i+1) ⟨by omega,hy (zgp (by simp_all) (by simp_all)) (by omega)⟩ (by omega)
    |(rw [hend (by omega)])
def Yx (I:Alg) (args:List D) (hp:List HO):Option CT:=match args,hp with
  |[.v (.one (.p (.list .fld l))),.v (.one (.p (.list .fld m)))],[]=>(fun(l m:List Fld)=>(some (.one ⟨I.hid (l.length≤140737488355328∧m.length≤140737488355328),(.ret (.v (.one (.p (.bool (I.hid ((decide (l=m))))))))),[]⟩):Option CT)) l m
  |_,_=>none
theorem QJ:zA Tryd.prog 48 (Yx alg):=by
  intro args hp r h
  unfold Yx at h
  split at h
  · cases h;exact fun hn=>zgR _ _ hn
  · cases h
def zd7:Know Tryd.prog:=⟨48,Yx,QJ⟩
def zd6:Know Tryd.prog:=⟨48,fun I=>zB I (Yx I),zf QJ⟩
end Go.Proofs.YtknaogelmckimaaDoor
namespace Go.Proofs.YtknaogelmckimaaDoor
open Go Go.Sep Go.Ab
set_option maxRecDepth 100000
def hdB (a b:Str) (c:Int) (f:List Fld) (d:Int) (a2 b2:Str) (c2:Int) (f2:List Fld) (d2:Int):Bool:=decide ((⟨a,b,c,f,d⟩:Hd)=⟨a2,b2,c2,f2,d2⟩)
def ptB (a b c d a2 b2 c2 d2:Str):Bool:=decide ((⟨a,b,c,d⟩:Prt)=⟨a2,b2,c2,d2⟩)
theorem zf6 {x y:Hd}:hdB x.method x.target x.minor x.fields x.length y.method y.target y.minor y.fields y.length=true↔x=y:=by unfold hdB;exact decide_eq_true_iff
theorem zfH {x y:Prt}:ptB x.name x.file x.type x.bytes y.name y.file y.type y.bytes=true↔x=y:=by unfold ptB;exact decide_eq_true_iff
theorem zfz (a b:Str) (c:Int) (f:List Fld) (d:Int) (a2 b2:Str) (c2:Int) (f2:List Fld) (d2:Int) (hneed:f.length≤140737488355328∧f2.length≤140737488355328):Spc Tryd.prog 26 [.v (.agg [(.p (.str a)),(.p (.str b)),(.p (.int .i64 c)),(.p (.list .fld f)),(.p (.int .i64 d))]),.v (.agg [(.p (.str a2)),(.p (.str b2)),(.p (.int .i64 c2)),(.p (.list .fld f2)),(.p (.int .i64 d2))])] [] (.ret (.v (.one (.p (.bool ((hdB a b c f d a2 b2 c2 f2 d2))))))) []:=by
  refine spcG zl mixed Tryd.func26 (by kernel_rfl) { keep:=some [0,1,2,3,4]} [zd7,zd6] (by kernel_rfl) ?_
  intro I X hI hX
  refine zi (.br (I.seq a a2) (.br (I.seq b b2) (.br (I.ieq c c2) (.br (I.ieq d d2) (.need (I.hid (α:=(Prop)) (And (LE.le (List.length f) 140737488355328) (LE.le (List.length f2) 140737488355328))) (.fin (.ret (.v (.one (.p (.bool (I.hid (α:=Bool) (Decidable.decide (Eq f f2)))))))) [])) (.fin (.ret (.v (.one (.p (.bool Bool.false))))) [])) (.fin (.ret (.v (.one (.p (.bool Bool.false))))) [])) (.fin (.ret (.v (.one (.p (.bool Bool.false))))) [])) (.fin (.ret (.v (.one (.p (.bool Bool.false))))) [])) (by kernel_rfl) ?_
  simp only [zu]
  subst hI
  simp only [nrmA,nrmB,nrlB,reduceCtorEq]
  unfold hdB
  rw [show decide ((⟨a,b,c,f,d⟩:Hd)=⟨a2,b2,c2,f2,d2⟩)=(decide (a=a2)&&decide (b=b2)&&decide (c=c2)&&decide (d=d2)&&decide (f=f2)) by rw [Bool.eq_iff_iff];simp only [Hd.mk.injEq,decide_eq_true_iff,Bool.and_eq_true];constructor<;>(intro h;simp [h])]
  (repeat' (first|refine And.intro ?_ ?_|intro _))<;>first|omega|exact True.intro|exact False.elim ‹False›|skip
  all_goals first|exact hneed|(simp_all;done)|trace_state
def qG (I:Alg) (args:List D) (hp:List HO):Option CT:=match args,hp with
  |[.v (.agg [(.p (.str a)),(.p (.str b)),(.p (.int .i64 c)),(.p (.list .fld f)),(.p (.int .i64 d))]),.v (.agg [(.p (.str a2)),(.p (.str b2)),(.p (.int .i64 c2)),(.p (.list .fld f2)),(.p (.int .i64 d2))])],[]=>(fun(a b:Str) (c:Int) (f:List Fld) (d:Int) (a2 b2:Str) (c2:Int) (f2:List Fld) (d2:Int)=>(some (.one ⟨I.hid (f.length≤140737488355328∧f2.length≤140737488355328),(.ret (.v (.one (.p (.bool (I.hid ((hdB a b c f d a2 b2 c2 f2 d2)))))))),[]⟩):Option CT)) a b c f d a2 b2 c2 f2 d2
  |_,_=>none
theorem Ur:zA Tryd.prog 26 (qG alg):=by
  intro args hp r h
  unfold qG at h
  split at h
  · cases h;exact fun hn=>zfz _ _ _ _ _ _ _ _ _ _ hn
  · cases h
def Uo:Know Tryd.prog:=⟨26,qG,Ur⟩
def Un:Know Tryd.prog:=⟨26,fun I=>zB I (qG I),zf Ur⟩
theorem zfy (a b c d a2 b2 c2 d2:Str):Spc Tryd.prog 16 [.v (.agg [(.p (.str a)),(.p (.str b)),(.p (.str c)),(.p (.nl d))]),.v (.agg [(.p (.str a2)),(.p (.str b2)),(.p (.str c2)),(.p (.nl d2))])] [] (.ret (.v (.one (.p (.bool ((ptB a b c d a2 b2 c2 d2))))))) []:=by
  refine spcG zl mixed Tryd.func16 (by kernel_rfl) { keep:=some [0,1,2,3,4]} [uX,uV] (by kernel_rfl) ?_
  intro I X hI hX
  refine zi (.br (I.seq a a2) (.br (I.seq b b2) (.br (I.seq c c2) (.need (I.hid (α:=(Prop)) True) (.fin (.ret (.v (.one (.p (.bool (I.hid (α:=Bool) (BEq.beq d d2))))))) [])) (.fin (.ret (.v (.one (.p (.bool Bool.false))))) [])) (.fin (.ret (.v (.one (.p (.bool Bool.false))))) [])) (.fin (.ret (.v (.one (.p (.bool Bool.false))))) [])) (by kernel_rfl) ?_
  simp only [zu]
  subst hI
  simp only [nrmA,nrmB,nrlB,reduceCtorEq]
  unfold ptB
  rw [show decide ((⟨a,b,c,d⟩:Prt)=⟨a2,b2,c2,d2⟩)=(decide (a=a2)&&decide (b=b2)&&decide (c=c2)&&(d == d2)) by rw [Bool.eq_iff_iff];simp only [Prt.mk.injEq,decide_eq_true_iff,Bool.and_eq_true,beq_iff_eq];constructor<;>(intro h;simp [h])]
  (repeat' (first|refine And.intro ?_ ?_|intro _))<;>first|omega|exact True.intro|exact False.elim ‹False›|skip
  all_goals first|(simp_all;done)|trace_state
def qF (I:Alg) (args:List D) (hp:List HO):Option CT:=match args,hp with
  |[.v (.agg [(.p (.str a)),(.p (.str b)),(.p (.str c)),(.p (.nl d))]),.v (.agg [(.p (.str a2)),(.p (.str b2)),(.p (.str c2)),(.p (.nl d2))])],[]=>(fun(a b c d a2 b2 c2 d2:Str)=>(some (.one ⟨I.hid (True),(.ret (.v (.one (.p (.bool (I.hid ((ptB a b c d a2 b2 c2 d2)))))))),[]⟩):Option CT)) a b c d a2 b2 c2 d2
  |_,_=>none
theorem Um:zA Tryd.prog 16 (qF alg):=by
  intro args hp r h
  unfold qF at h
  split at h
  · cases h;exact fun hn=>zfy _ _ _ _ _ _ _ _
  · cases h
def Ul:Know Tryd.prog:=⟨16,qF,Um⟩
def Uk:Know Tryd.prog:=⟨16,fun I=>zB I (qF I),zf Um⟩
theorem zeM {α:Type} [DecidableEq α] {l m:List α} {i:Nat} (d:α) (h1:i<l.length) (h2:i<m.length):(decide (l.drop i=m.drop i))=(decide (l.getD i d=m.getD i d)&&decide (l.drop (i+1)=m.drop (i+1))):=by
  have e1:l.getD i d=l[i]:=by simp [h1]
  have e2:m.getD i d=m[i]:=by simp [h2]
  rw [e1,e2,Bool.eq_iff_iff,Bool.and_eq_true,decide_eq_true_iff,decide_eq_true_iff,decide_eq_true_iff,List.drop_eq_getElem_cons h1,List.drop_eq_getElem_cons h2,List.cons.injEq]
theorem getD_in {α:Type} {l:List α} {i:Nat} (d:α) (h:i<l.length):l.getD i d ∈ l:=by
  rw [show l.getD i d=l[i] by simp [h]];exact List.getElem_mem h
theorem zgB {x y:Evt} (h1:x.kind=y.kind) (h2:x.code=y.code) (h3:x.bytes=y.bytes) (h4:x.head=y.head) (h5:x.part=y.part):x=y:=by cases x;cases y;simp_all
def fewE (l:List Evt):Prop:=l.length≤100000000∧∀ e ∈ l,e.head.fields.length≤140737488355328
theorem zfA (l m:List Evt) (hneed:fewE l∧fewE m):Spc Tryd.prog 10 [.v (.one (.p (.list .evt l))),.v (.one (.p (.list .evt m)))] [] (.ret (.v (.one (.p (.bool ((decide (l=m)))))))) []:=by
  obtain⟨⟨hl,hl2⟩,hm,hm2⟩:=hneed
  generalize hr:decide (l=m)=r
  refine spcG zl mixed Tryd.func10 (by kernel_rfl) { keep:=some [0,1,4,5]} [uX,uV,Uo,Un,Ul,Uk] (by kernel_rfl) ?_
  intro I X hI hX
  refine zi (.br (I.bnot (I.ieq (I.len (α:=Go.Ab.Evt) l) (I.len (α:=Go.Ab.Evt) m))) (.fin (.ret (.v (.one (.p (.bool Bool.false))))) []) (.code 0 [1,1,0,1,0] ⟨[(5,(.v (.one (.p (.int .i64 0))))),(4,(.v (.one (.p (.val (.bool .false)))))),(0,(.v (.one (.p (.list .evt l))))),(1,(.v (.one (.p (.list .evt m)))))],[],83,none⟩)) (by kernel_rfl) ?_
  simp only [zu]
  refine⟨fun c1=> ?_,fun c1=> ?_⟩
  · subst hI
    simp only [nrmA,nrmB] at c1
    simp only [nrmA,nrmB]
    rw [← hr]
    exact(decide_eq_false fun e=>c1 (by rw [e])).symm
  have hlm:l.length=m.length:=by
    subst hI
    simp only [nrmA,nrmB] at c1
    omega
  refine zL hI zl mixed [uX,uV,Uo,Un,Ul,Uk] hX [0,1,5] (fun(i:Nat)=>i≤l.length∧r=decide (l.drop i=m.drop i)) (fun(i:Nat)=>⟨[(0,.v (.one (.p (.list .evt l)))),(1,.v (.one (.p (.list .evt m)))),(5,.v (.one (.p (.int .i64 i))))],[],83,none⟩) (fun(i:Nat)=>l.length - i) 0 (by kernel_rfl) (by kernel_rfl) ?_ ?_
  · exact⟨Nat.zero_le _,hr.symm⟩
  rintro i ⟨h1,h2⟩ A hA
  refine zi (let y0:=I.get (α:=Go.Ab.Evt) l (Go.Ab.Evt.mk (0:Int) (Hd.mk ([]:Str) ([]:Str) (0:Int) ([]:List Fld) (0:Int)) ([]:Str) (Go.Ab.Prt.mk ([]:Str) ([]:Str) ([]:Str) ([]:Str)) (0:Int)) (Nat.cast i);let y1:=I.get (α:=Go.Ab.Evt) m (Go.Ab.Evt.mk (0:Int) (Hd.mk ([]:Str) ([]:Str) (0:Int) ([]:List Fld) (0:Int)) ([]:Str) (Go.Ab.Prt.mk ([]:Str) ([]:Str) ([]:Str) ([]:Str)) (0:Int)) (Nat.cast i);let y2:=I.inb (Nat.cast i) (I.len (α:=Go.Ab.Evt) l);let y3:=I.inb (Nat.cast i) (I.len (α:=Go.Ab.Evt) m);.br (I.ilt (Nat.cast i) (I.len (α:=Go.Ab.Evt) l)) (.need y2 (.need y2 (.need y3 (.need y3 (.br (I.bnot (I.ieq (Go.Ab.Evt.kind y0) (Go.Ab.Evt.kind y1))) (.fin (.ret (.v (.one (.p (.bool Bool.false))))) []) (.need y2 (.need y2 (.need y3 (.need y3 (.br (I.bnot (I.ieq (Go.Ab.Evt.code y0) (Go.Ab.Evt.code y1))) (.fin (.ret (.v (.one (.p (.bool Bool.false))))) []) (.need y2 (.need y2 (.need y3 (.need y3 (.need (I.hid (α:=(Prop)) True) (.br (I.bnot (I.hid (α:=Bool) (BEq.beq (Go.Ab.Evt.bytes y0) (Go.Ab.Evt.bytes y1)))) (.fin (.ret (.v (.one (.p (.bool Bool.false))))) []) (.need y2 (.need y2 (.need y3 (.need y3 (.need (I.hid (α:=(Prop)) (And (LE.le (List.length (Hd.fields (Go.Ab.Evt.head y0))) 140737488355328) (LE.le (List.length (Hd.fields (Go.Ab.Evt.head y1))) 140737488355328))) (.br (I.bnot (I.hid (α:=Bool) (hdB (Hd.method (Go.Ab.Evt.head y0)) (Hd.target (Go.Ab.Evt.head y0)) (Hd.minor (Go.Ab.Evt.head y0)) (Hd.fields (Go.Ab.Evt.head y0)) (Hd.length (Go.Ab.Evt.head y0)) (Hd.method (Go.Ab.Evt.head y1)) (Hd.target (Go.Ab.Evt.head y1)) (Hd.minor (Go.Ab.Evt.head y1)) (Hd.fields (Go.Ab.Evt.head y1)) (Hd.length (Go.Ab.Evt.head y1))))) (.fin (.ret (.v (.one (.p (.bool Bool.false))))) []) (.need y2 (.need y2 (.need y3 (.need y3 (.need (I.hid (α:=(Prop)) True) (.br (I.bnot (I.hid (α:=Bool) (ptB (Go.Ab.Prt.name (Go.Ab.Evt.part y0)) (Go.Ab.Prt.file (Go.Ab.Evt.part y0)) (Go.Ab.Prt.type (Go.Ab.Evt.part y0)) (Go.Ab.Prt.bytes (Go.Ab.Evt.part y0)) (Go.Ab.Prt.name (Go.Ab.Evt.part y1)) (Go.Ab.Prt.file (Go.Ab.Evt.part y1)) (Go.Ab.Prt.type (Go.Ab.Evt.part y1)) (Go.Ab.Prt.bytes (Go.Ab.Evt.part y1))))) (.fin (.ret (.v (.one (.p (.bool Bool.false))))) []) (.need (I.inr Go.IntKind.i64 (I.add (Nat.cast i) 1)) (.need (A ⟨[(0,(.v (.one (.p (.list .evt l))))),(1,(.v (.one (.p (.list .evt m))))),(5,(.v (.one (.p (.int .i64 (I.add (Nat.cast i) 1))))))],[],83,none⟩) .qed)))))))))))))))))))))))))))))) (.fin (.ret (.v (.one (.p (.bool Bool.true))))) [])) (by kernel_rfl) ?_
  simp only [zu]
  subst hI
  simp only [nrmA,nrmB,nrlB,reduceCtorEq]
  have hd:i<l.length→_:=fun h=>zeM (l:=l) (m:=m) (i:=i) ⟨0,⟨[],[],0,[],0⟩,[],⟨[],[],[],[]⟩,0⟩ h (by omega)
  have hend: ¬ i<l.length→r=true:=fun h=>by
    rw [h2,List.drop_of_length_le (by omega),List.drop_of_length_le (by omega)];simp
  have hfx:i<l.length→(l.getD i ⟨0,⟨[],[],0,[],0⟩,[],⟨[],[],[],[]⟩,0⟩).head.fields.length≤140737488355328:=fun h=>hl2 _ (by simp [h])
  have hfy:i<l.length→(m.getD i ⟨0,⟨[],[],0,[],0⟩,[],⟨[],[],[],[]⟩,0⟩).head.fields.length≤140737488355328:=fun h=>hm2 _ (getD_in _ (by omega))
  generalize l.getD i ⟨0,⟨[],[],0,[],0⟩,[],⟨[],[],[],[]⟩,0⟩=x at *
  generalize m.getD i ⟨0,⟨[],[],0,[],0⟩,[],⟨[],[],[],[]⟩,0⟩=y at *
  have hx: ¬ x=y→i<l.length→r=false:=fun h hi=>by rw [h2,hd hi,decide_eq_false h,Bool.false_and]
  have hy:x=y→i<l.length→r=decide (l.drop (i+1)=m.drop (i+1)):=fun h hi=>by rw [h2,hd hi,decide_eq_true h,Bool.true_and]
  have hbh:=zf6 (x:=x.head) (y:=y.head)
  have hbp:=zfH (x:=x.part) (y:=y.part)
  generalize hdB x.head.method x.head.target x.head.minor x.head.fields x.head.length y.head.method y.head.target y.head.minor y.head.fields y.head.length=B1 at *
  generalize ptB x.part.name x.part.file x.part.type x.part.bytes y.part.name y.part.file y.part.type y.part.bytes=B2 at *
  (repeat' (first|refine And.intro ?_ ?_|intro _))<;>first|omega|exact True.intro|exact False.elim ‹False›|skip
  all_goals first
    |omega
    |(exact(hx (by rintro rfl;simp_all) (by omega)).symm)
    |(rw [hx (by rintro rfl;simp_all) (by omega)])
    |exact hA (i+1) ⟨by omega,hy (zgB (by simp_all) (by simp_all) (by simp_all) (by simp_all) (by simp_all)) (by omega)⟩ (by omega)
    |(rw [hend (by omega)])
def qH (I:Alg) (args:List D) (hp:List HO):Option CT:=match args,hp with
  |[.v (.one (.p (.list .evt l))),.v (.one (.p (.list .evt m)))],[]=>(fun(l m:List Evt)=>(some (.one ⟨I.hid (fewE l∧fewE m),(.ret (.v (.one (.p (.bool (I.hid ((decide (l=m))))))))),[]⟩):Option CT)) l m
  |_,_=>none
theorem Us:zA Tryd.prog 10 (qH alg):=by
  intro args hp r h
  unfold qH at h
  split at h
  · cases h;exact fun hn=>zfA _ _ hn
  · cases h
def Y3:Know Tryd.prog:=⟨10,qH,Us⟩
def Y2:Know Tryd.prog:=⟨10,fun I=>zB I (qH I),zf Us⟩
end Go.Proofs.YtknaogelmckimaaDoor
namespace Go.Proofs.YtknaogelmckimaaDoor
open Go Go.Sep Go.Ab
set_option maxRecDepth 100000
def pcK (n:Nat) (c:Int):Nat:=((c % 18446744073709551616) % ((n:Int)+1)).toNat
theorem zgV (n:Nat) (c:Int):pcK n c≤n:=by
  unfold pcK
  have:=Int.emod_lt_of_pos (c % 18446744073709551616) (show(0:Int)<(n:Int)+1 by omega)
  omega
def pcs:Str→List Int→List Str
  |b,[]=>[b]
  |b,c::r=>b.take (pcK b.length c)::pcs (b.drop (pcK b.length c)) r
theorem QN: ∀ (cs:List Int) (b:Str),(pcs b cs).flatten=b
  |[],b=>by simp [pcs]
  |c::r,b=>by simp [pcs,QN r]
theorem zce: ∀ (cs:List Int) (b:Str),(pcs b cs).length=cs.length+1
  |[],b=>rfl
  |c::r,b=>by simp [pcs,zce r]
theorem pcW (c:Int) {n k:Nat} (h:k≤n) (hn:n≤1000000):IntKind.i64.wrap ((IntKind.u64.wrap c).tmod (IntKind.u64.wrap ((n:Int) - k+1)))=(pcK (n - k) c:Int):=by
  have e1:IntKind.u64.wrap c=c % 18446744073709551616:=by simp [IntKind.wrap_u64]
  have e2:IntKind.u64.wrap ((n:Int) - k+1)=((n - k:Nat):Int)+1:=by rw [IntKind.wrap_u64];omega
  rw [e1,e2,Int.tmod_eq_emod_of_nonneg (by omega)]
  unfold pcK
  have h1:=Int.emod_lt_of_pos (c % 18446744073709551616) (show(0:Int)<((n - k:Nat):Int)+1 by omega)
  have h2:=Int.emod_nonneg (c % 18446744073709551616) (show((n - k:Nat):Int)+1≠0 by omega)
  generalize c % 18446744073709551616 % (((n - k:Nat):Int)+1)=z at *
  rw [IntKind.wrap_i64]
  omega
theorem pcU {n k:Nat} (h:k≤n) (hn:n≤1000000): ¬ IntKind.u64.wrap ((n:Int) - k+1)=0:=by rw [IntKind.wrap_u64];omega
theorem zfJ (b:Str) (cs:List Int) (hneed:cs.length≤1000000∧b.length≤1000000):Spc Tryd.prog 8 [.v (.one (.p (.list .byte b))),.v (.one (.p (.list .int cs)))] [] (.ret (.v (.one (.row 0)))) [.row .bytes 22 ((pcs b cs))]:=by
  refine spcG zl mixed Tryd.func8 (by kernel_rfl) { nr:=[5],keep:=some [0,1,4,5,6,7,8]} [] (by kernel_rfl) ?_
  intro I X hI hX
  refine zi (.code 0 [1,1,1,0,1,0] ⟨[(7,(.v (.one (.p (.int .i64 0))))),(6,(.v (.one (.p (.int .i64 0))))),(5,(.v (.one (.row 0)))),(4,(.v (.one .nilS))),(0,(.v (.one (.p (.list .byte b))))),(1,(.v (.one (.p (.list .int cs)))))],[(.row .bytes 22 ([]:List (Str)))],44,none⟩) (by kernel_rfl) ?_
  simp only [zu]
  refine zL hI zl mixed [] hX [0,1,5,6,7] (fun(g:Nat × Nat × List Str)=>match g with|(i,k,o)=>i≤cs.length∧k≤b.length∧o.length=i∧pcs b cs=o++pcs (b.drop k) (cs.drop i)) (fun(g:Nat × Nat × List Str)=>match g with|(i,k,o)=>⟨[(0,.v (.one (.p (.list .byte b)))),(1,.v (.one (.p (.list .int cs)))),(5,.v (.one (.row 0))),(6,.v (.one (.p (.int .i64 k)))),(7,.v (.one (.p (.int .i64 i))))],[.row .bytes 22 o],44,none⟩) (fun(g:Nat × Nat × List Str)=>match g with|(i,k,o)=>cs.length - i) (0,0,[]) (by kernel_rfl) (by kernel_rfl) ?_ ?_
  · exact⟨Nat.zero_le _,Nat.zero_le _,rfl,rfl⟩
  rintro⟨i,k,o⟩ ⟨h1,h2,h3,h4⟩ A hA
  simp only at hA h1 h2 h3 h4
  refine zi (let y1:=I.sub (I.len (α:=UInt8) b) (Nat.cast k);let y0:=I.add (Nat.cast k) (I.wrap Go.IntKind.i64 (I.rem (I.wrap Go.IntKind.u64 (I.get (α:=Int) cs 0 (Nat.cast i))) (I.wrap Go.IntKind.u64 (I.add y1 1))));let y2:=I.cut (α:=UInt8) b (Int.ofNat k) (I.len (α:=UInt8) b);let y3:=I.inb (Nat.cast i) (I.len (α:=Int) cs);let y4:=I.cut (α:=UInt8) b (Int.ofNat k) y0;.br (I.ilt (Nat.cast i) (I.len (α:=Int) cs)) (.need y3 (.need y3 (.need (I.inr Go.IntKind.i64 y1) (.need (I.inr Go.IntKind.i64 (I.add y1 1)) (.need (I.nne (I.wrap Go.IntKind.u64 (I.add y1 1))) (.need (I.inr Go.IntKind.i64 y0) (.need (I.cutb (Int.ofNat k) y0 (I.len (α:=UInt8) b)) (.need (I.few (I.add (I.len (α:=Str) o) (I.len (α:=Str) ([y4]:List (Str)))) 100000000) (.need (I.inr Go.IntKind.i64 (I.add (Nat.cast i) 1)) (.need (A ⟨[(0,(.v (.one (.p (.list .byte b))))),(1,(.v (.one (.p (.list .int cs))))),(5,(.v (.one (.row 0)))),(6,(.v (.one (.p (.int .i64 y0))))),(7,(.v (.one (.p (.int .i64 (I.add (Nat.cast i) 1))))))],[(.row .bytes 22 (I.app (α:=Str) o ([y4]:List (Str))))],44,none⟩) .qed)))))))))) (.need (I.cutb (Int.ofNat k) (I.len (α:=UInt8) b) (I.len (α:=UInt8) b)) (.need (I.few (I.add (I.len (α:=Str) o) (I.len (α:=Str) ([y2]:List (Str)))) 100000000) (.fin (.ret (.v (.one (.row 0)))) [(.row .bytes 22 (I.app (α:=Str) o ([y2]:List (Str))))])))) (by kernel_rfl) ?_
  simp only [zu]
  subst hI
  simp only [nrmA,nrmB,nrlB,reduceCtorEq]
  have hU:=pcU h2 hneed.2
  have hK:=zgV (b.length - k) (cs.getD i 0)
  have hW:=pcW (cs.getD i 0) h2 hneed.2
  rw [hW]
  have hgo:i<cs.length→_:=fun h=>hA (i+1,k+pcK (b.length - k) (cs.getD i 0),o++[(b.drop k).take (pcK (b.length - k) (cs.getD i 0))]) ⟨by simp only;omega,by simp only;omega,by simp [h3],by simp only;rw [h4,show cs.drop i=cs.getD i 0::cs.drop (i+1) by rw [List.drop_eq_getElem_cons h];simp [h]];simp [pcs,List.drop_drop]⟩ (by simp only;omega)
  have hend: ¬ i<cs.length→pcs b cs=o++[b.drop k]:=fun h=>by rw [h4,List.drop_of_length_le (l:=cs) (by omega)];rfl
  have hte:(b.drop k).take (b.length - k)=b.drop k:=List.take_of_length_le (by rw [List.length_drop];omega)
  have htk:((k:Int)+(pcK (b.length - k) (cs.getD i 0):Int)).toNat - k=pcK (b.length - k) (cs.getD i 0):=by omega
  rw [htk]
  generalize pcK (b.length - k) (cs.getD i 0)=z at *
  (repeat' (first|refine And.intro ?_ ?_|intro _))<;>first|omega|exact True.intro|exact False.elim ‹False›|skip
  all_goals first
    |omega
    |exact hU
    |(simp only [List.length_cons,List.length_nil];omega)
    |exact hgo (by omega)
    |(rw [hend (by omega),hte])
def qP (I:Alg) (args:List D) (hp:List HO):Option CT:=match args,hp with
  |[.v (.one (.p (.list .byte b))),.v (.one (.p (.list .int cs)))],[]=>(fun(b:Str) (cs:List Int)=>(some (.one ⟨I.hid (cs.length≤1000000∧b.length≤1000000),(.ret (.v (.one (.row 0)))),[.row .bytes 22 (I.hid ((pcs b cs)))]⟩):Option CT)) b cs
  |_,_=>none
theorem Uy:zA Tryd.prog 8 (qP alg):=by
  intro args hp r h
  unfold qP at h
  split at h
  · cases h;exact fun hn=>zfJ _ _ hn
  · cases h
def Xb:Know Tryd.prog:=⟨8,qP,Uy⟩
def Xa:Know Tryd.prog:=⟨8,fun I=>zB I (qP I),zf Uy⟩
end Go.Proofs.YtknaogelmckimaaDoor
namespace Go.Proofs.YtknaogelmckimaaDoor
open Go Go.Sep Go.Ab
set_option maxRecDepth 100000
theorem zhy {l:List Evt} (h:EvN l) (k:l.length≤10000000):fewE l:=⟨by omega,fun e m=>by rw [h e m];decide⟩
theorem zgh (s:Str) (hneed:s.length≤140737488355328∧yT s=true):Spc Tryd.prog 7 [.v (.one (.p (.str s)))] [] (.ret (.tup [(.one (.ptr 0 0)),(.one (.p (.int .i64 0)))])) [.abs (.fm ((fm0 s)))]:=zc5 s hneed
def Zg (I:Alg) (args:List D) (hp:List HO):Option CT:=match args,hp with
  |[.v (.one (.p (.str s)))],[]=>(fun(s:Str)=>(some (.one ⟨I.hid (s.length≤140737488355328∧yT s=true),(.ret (.tup [(.one (.ptr 0 0)),(.one (.p (.int .i64 0)))])),[.abs (.fm (I.hid ((fm0 s))))]⟩):Option CT)) s
  |_,_=>none
theorem Tt:zA Tryd.prog 7 (Zg alg):=by
  intro args hp r h
  unfold Zg at h
  split at h
  · cases h;exact fun hn=>zgh _ hn
  · cases h
def Tq:Know Tryd.prog:=⟨7,Zg,Tt⟩
def Tn:Know Tryd.prog:=⟨7,fun I=>zB I (Zg I),zf Tt⟩
theorem zbC (s b:Str) (cs:List Int) (hneed:s.length≤140737488355328∧yT s=true):Spc Tryd.prog 3 [.v (.one (.p (.str s))),.v (.one (.p (.list .byte b))),.v (.one (.p (.list .int cs)))] [] (.ret (.v (.one (.p (.bool true))))) []:=by
  obtain⟨hs,hm⟩:=hneed
  have hl:s.length≤70:=by unfold yT at hm;simp at hm;omega
  have hN:=zau (fm0 s) b
  have hle:=TF (b:=b) hl
  have hf:=QN cs b
  have hpl:=zce cs b
  have hI0:=zeE hl
  refine spcG zl mixed Tryd.func3 (by kernel_rfl) { cfgF with fz:=[10],nr:=[11],keep:=some [0,1,2,6,7,8,9,10,11,12,13]} [wJ,wI,vX,vW,rE,rD,wG,wF,Tq,Tn,tV,tN,Y3,Y2,Xb,Xa] (by kernel_rfl) ?_
  intro I X hI hX
  refine zi (let y0:=I.hid (α:=(Prop)) (And (LE.le (List.length s) 140737488355328) (Eq (yT s) Bool.true));.need (I.hid (α:=(Prop)) True) (.br (I.bnot Bool.true) (.fin (.ret (.v (.one (.p (.bool Bool.false))))) []) (.br (I.ilt 9000 (I.len (α:=UInt8) b)) (.fin (.ret (.v (.one (.p (.bool Bool.true))))) []) (.br (I.ilt 100 (I.len (α:=Int) cs)) (.fin (.ret (.v (.one (.p (.bool Bool.true))))) []) (.need y0 (.need y0 (.br (I.bnot (I.ieq 0 0)) (.fin (.ret (.v (.one (.p (.bool (I.ieq 0 0)))))) []) (.br (I.bnot (I.ieq 0 0)) (.fin (.ret (.v (.one (.p (.bool (I.ieq 0 0)))))) []) (.need (I.hid (α:=(Prop)) (And (LE.le (List.length cs) 1000000) (LE.le (List.length b) 1000000))) (.code 0 [1,1,1,1,1,1,1,1,0,1,0] ⟨[(13,(.v (.one (.p (.int .i64 0))))),(12,(.v (.one (.row 3)))),(11,(.v (.one (.row 2)))),(10,(.v (.one (.p (.int .i64 0))))),(9,(.v (.one (.ptr 1 0)))),(8,(.v (.one (.p (.int .i64 0))))),(7,(.v (.one (.ptr 0 0)))),(6,(.v (.one (.p (.val (.bool .false)))))),(0,(.v (.one (.p (.str s))))),(1,(.v (.one (.p (.list .byte b))))),(2,(.v (.one (.p (.list .int cs)))))],[(.abs (.fm (I.hid (α:=Go.Ab.Fm) (fm0 s)))),(.abs (.fm (I.hid (α:=Go.Ab.Fm) (fm0 s)))),(.row .evt 63 ([]:List Go.Ab.Evt)),(.row .bytes 22 (I.hid (α:=(List (Str))) (pcs b cs)))],73,none⟩)))))))))) (by kernel_rfl) ?_
  simp only [zu]
  generalize pcs b cs=L at *
  generalize hF0:fm0 s=F0 at *
  (repeat' (first|refine And.intro ?_ ?_|intro _))
  all_goals try(subst hI;(simp only [nrmA,nrmB,nrlB,reduceCtorEq] at *);first|done|trivial|omega|exact⟨by omega,by omega⟩|exact⟨hs,hm⟩)
  have hb:b.length≤9000∧cs.length≤100:=by
    subst hI
    simp only [nrmA,nrmB,nrlB,reduceCtorEq] at *
    omega
  rw [show I.hid L=L by subst hI;rfl,show I.hid F0=F0 by subst hI;rfl]
  refine zL hI zl mixed [wJ,wI,vX,vW,rE,rD,wG,wF,Tq,Tn,tV,tN,Y3,Y2,Xb,Xa] hX [1,7,9,11,12,13] (fun(g:Nat × Fm × List Evt)=>match g with|(i,f,al)=>FcI s b L i f al) (fun(g:Nat × Fm × List Evt)=>match g with|(i,f,al)=>⟨[(1,.v (.one (.p (.list .byte b)))),(7,.v (.one (.ptr 0 0))),(9,.v (.one (.ptr 1 0))),(11,.v (.one (.row 2))),(12,.v (.one (.row 3))),(13,.v (.one (.p (.int .i64 i))))],[.abs (.fm f),.abs (.fm F0),.row .evt 63 al,.row .bytes 22 L],73,none⟩) (fun(g:Nat × Fm × List Evt)=>match g with|(i,f,al)=>L.length - i) (0,F0,[]) (by kernel_rfl) (by kernel_rfl) ?_ ?_
  · show FcI s b L 0 F0 []
    rw [← hF0];exact zh6 hl b L
  rintro⟨i,f,al⟩ h1 A hA
  simp only at hA h1
  refine zi (let y0:=I.get (α:=Str) L ([]:Str) (Nat.cast i);let y1:=I.hid (α:=(List Go.Ab.Evt)) (zH (Go.Ab.Fm.out (zq f y0)));let y2:=I.hid (α:=(List Go.Ab.Evt)) (zH (Go.Ab.Fm.out (zq F0 b)));let y3:=I.hid (α:=(List Go.Ab.Evt)) (zH al);let y4:=I.inb (Nat.cast i) (I.len (α:=Str) L);.br (I.ilt (Nat.cast i) (I.len (α:=Str) L)) (.need y4 (.need y4 (.need (I.hid (α:=(Prop)) (fmN0 f y0)) (.need (I.few (I.add (I.len (α:=Go.Ab.Evt) al) (I.len (α:=Go.Ab.Evt) y1)) 100000000) (.need (I.inr Go.IntKind.i64 (I.add (Nat.cast i) 1)) (.need (A ⟨[(1,(.v (.one (.p (.list .byte b))))),(7,(.v (.one (.ptr 0 0)))),(9,(.v (.one (.ptr 1 0)))),(11,(.v (.one (.row 2)))),(12,(.v (.one (.row 3)))),(13,(.v (.one (.p (.int .i64 (I.add (Nat.cast i) 1))))))],[(.abs (.fm (I.hid (α:=Go.Ab.Fm) (zq f y0)))),(.abs (.fm F0)),(.row .evt 63 (I.app (α:=Go.Ab.Evt) al y1)),(.row .bytes 22 L)],73,none⟩) .qed)))))) (.need (I.hid (α:=(Prop)) (And (LE.le (zG al) 1000000) (LE.le (List.length al) 10000000))) (.need (I.hid (α:=(Prop)) (fmN0 F0 b)) (.need (I.hid (α:=(Prop)) (And (fewE y3) (fewE y2))) (.br (I.hid (α:=Bool) (Decidable.decide (Eq y3 y2))) (.need (I.hid (α:=(Prop)) True) (.need (I.hid (α:=(Prop)) True) (.fin (.ret (.v (.one (.p (.bool (I.ieq (I.hid (α:=Int) (yw f)) (I.hid (α:=Int) (yw (I.hid (α:=Go.Ab.Fm) (zq F0 b)))))))))) []))) (.fin (.ret (.v (.one (.p (.bool Bool.false))))) [])))))) (by kernel_rfl) ?_
  simp only [zu]
  subst hI
  simp only [nrmA,nrmB,nrlB,reduceCtorEq,HO.abs.injEq,Gh.fm.injEq]
  have hlen: ∀ {i:Nat} {f:Fm} {al:List Evt},FcI s b L i f al→al.length≤3636000:=fun {i f al} h=>Nat.le_trans h.ln (Nat.mul_le_mul (show i≤101 by have:=h.le;omega) (show 4 * b.length≤36000 by omega))
  have hal:=hlen h1
  have hsu:zG al≤1000000:=by have:=h1.su;have:=zax L i;rw [hf] at this;omega
  have hneed:i<L.length→fmN0 f (L.getD i []):=fun h=>zeJ h1 hf h (by omega)
  have hnx:=fun h:i<L.length=>zh5 h1 hf h (by omega)
  have hln:i<L.length→al.length+(zH (zq f (L.getD i [])).out).length≤3636000:=fun h=>by have:=hlen (hnx h);rw [List.length_append] at this;exact this
  have hgo:i<L.length→_:=fun h=>hA (i+1,zq f (L.getD i []),al++zH (zq f (L.getD i [])).out) (hnx h) (by simp only;omega)
  have hn0:fmN0 F0 b:=⟨0,hI0,by omega⟩
  have hee: ¬ i<L.length→yV f=yV (zq F0 b)∧zH al=zH (zq F0 b).out:=fun h=>by rw [← hF0];exact zgr (show FcI s b L L.length f al by have:=h1.le;rw [show L.length=i by omega];exact h1) hf
  have hcl: ¬ i<L.length→yw f=yw (zq F0 b):=fun h=>zbN (hee h).1
  have hfew:fewE (zH (zq F0 b).out):=zhy hN (by omega)
  have hq: ¬ i<L.length→decide (zH al=zH (zq F0 b).out)=true:=fun h=>decide_eq_true (hee h).2
  have hfl: ¬ i<L.length→fewE (zH al):=fun h=>by rw [(hee h).2];exact hfew
  have hal2:=Za al
  clear hA hlen hnx
  generalize zq f (L.getD i [])=Q at *
  (repeat' (first|refine And.intro ?_ ?_|intro _))<;>first|omega|exact True.intro|exact False.elim ‹False›|skip
  all_goals first
    |omega
    |(have:=hgo (by omega);simp only [Int.natCast_add,Int.natCast_one] at this;exact this)
    |exact hneed (by omega)
    |exact hn0
    |exact hfew
    |exact hfl (by omega)
    |exact hcl (by omega)
    |exact hfew.2 _ ((hee (by omega)).2▸‹_ ∈ zH al›)
    |exact hfew.2 _ ‹_›
    |(have:=hq (by omega);simp_all;done)
theorem zgg (s:Str) (hneed:s.length≤140737488355328∧yT s=false):Spc Tryd.prog 7 [.v (.one (.p (.str s)))] [] (.ret (.tup [(.one (.p (.val (.pointer none)))),(.one (.p (.int .i64 5)))])) []:=zc4 s hneed
def Zf (I:Alg) (args:List D) (hp:List HO):Option CT:=match args,hp with
  |[.v (.one (.p (.str s)))],[]=>(fun(s:Str)=>(some (.one ⟨I.hid (s.length≤140737488355328∧yT s=false),(.ret (.tup [(.one (.p (.val (.pointer none)))),(.one (.p (.int .i64 5)))])),[]⟩):Option CT)) s
  |_,_=>none
theorem Tm:zA Tryd.prog 7 (Zf alg):=by
  intro args hp r h
  unfold Zf at h
  split at h
  · cases h;exact fun hn=>zgg _ hn
  · cases h
def zc1:Know Tryd.prog:=⟨7,Zf,Tm⟩
def zc0:Know Tryd.prog:=⟨7,fun I=>zB I (Zf I),zf Tm⟩
theorem zbB (s b:Str) (cs:List Int) (hneed:s.length≤140737488355328∧yT s=false):Spc Tryd.prog 3 [.v (.one (.p (.str s))),.v (.one (.p (.list .byte b))),.v (.one (.p (.list .int cs)))] [] (.ret (.v (.one (.p (.bool true))))) []:=by
  obtain⟨hs,hm⟩:=hneed
  refine spcG zl mixed Tryd.func3 (by kernel_rfl) { cfgF with fz:=[10],nr:=[11],keep:=some [0,1,2,6,7,8,9,10,11,12,13]} [wJ,wI,vX,vW,rE,rD,wG,wF,zc1,zc0,tV,tN,Y3,Y2,Xb,Xa] (by kernel_rfl) ?_
  intro I X hI hX
  refine zi (let y0:=I.hid (α:=(Prop)) (And (LE.le (List.length s) 140737488355328) (Eq (yT s) Bool.false));.need (I.hid (α:=(Prop)) True) (.br (I.bnot Bool.true) (.fin (.ret (.v (.one (.p (.bool Bool.false))))) []) (.br (I.ilt 9000 (I.len (α:=UInt8) b)) (.fin (.ret (.v (.one (.p (.bool Bool.true))))) []) (.br (I.ilt 100 (I.len (α:=Int) cs)) (.fin (.ret (.v (.one (.p (.bool Bool.true))))) []) (.need y0 (.need y0 (.br (I.bnot (I.ieq 5 0)) (.fin (.ret (.v (.one (.p (.bool (I.ieq 5 5)))))) []) (.br (I.bnot (I.ieq 5 0)) (.fin (.ret (.v (.one (.p (.bool (I.ieq 5 5)))))) []) (.need (I.hid (α:=(Prop)) (And (LE.le (List.length cs) 1000000) (LE.le (List.length b) 1000000))) (.code 0 [1,1,1,1,1,1,1,1,0,1,0] ⟨[(13,(.v (.one (.p (.int .i64 0))))),(12,(.v (.one (.row 1)))),(11,(.v (.one (.row 0)))),(10,(.v (.one (.p (.int .i64 5))))),(9,(.v (.one (.p (.val (.pointer .none)))))),(8,(.v (.one (.p (.int .i64 5))))),(7,(.v (.one (.p (.val (.pointer .none)))))),(6,(.v (.one (.p (.val (.bool .false)))))),(0,(.v (.one (.p (.str s))))),(1,(.v (.one (.p (.list .byte b))))),(2,(.v (.one (.p (.list .int cs)))))],[(.row .evt 63 ([]:List Go.Ab.Evt)),(.row .bytes 22 (I.hid (α:=(List (Str))) (pcs b cs)))],73,none⟩)))))))))) (by kernel_rfl) ?_
  simp only [zu]
  (repeat' (first|refine And.intro ?_ ?_|intro _))
  all_goals try(subst hI;(simp only [nrmA,nrmB,nrlB,reduceCtorEq] at *);first|done|trivial|omega|exact⟨by omega,by omega⟩|exact⟨hs,hm⟩)
  all_goals trace_state
theorem fmPieces_ (s b:Str) (cs:List Int) (hneed:s.length≤140737488355328):Spc Tryd.prog 3 [.v (.one (.p (.str s))),.v (.one (.p (.list .byte b))),.v (.one (.p (.list .int cs)))] [] (.ret (.v (.one (.p (.bool true))))) []:=by
  cases hm:yT s with
  |true=>exact zbC s b cs ⟨hneed,hm⟩
  |false=>exact zbB s b cs ⟨hneed,hm⟩
end Go.Proofs.YtknaogelmckimaaDoor
