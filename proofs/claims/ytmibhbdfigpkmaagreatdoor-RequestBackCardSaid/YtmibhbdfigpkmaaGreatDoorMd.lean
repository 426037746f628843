/- Texts of this proof, one behind the other: ReqA Splt Pfx ReqC ReqT ReqU ReqS SamF RplC ChkG ReqV ReqD ReqE. -/
import Derived.Lib.Split
import Derived.Lib.SplitLaws
import Derived.Test.YtmibhbdfigpkmaaGreatDoorMc
set_option linter.all false
namespace Go.Proofs.YtmibhbdfigpkmaaGreatDoor
open Go Go.Sep Go.Ab
set_option maxRecDepth 100000
def cfgQ:Cfg:= { sl:=[⟨82,0,.byte,some 5⟩,⟨57,5,.fld,some 51⟩,⟨57,9,.evt,some 32⟩]}
def zA (q:Rq):Prop:=q.out.length≤10000000
theorem zjk:Spc Tryz.prog 8 [] [] (.ret (.v (.one (.ptr 0 0)))) [.abs (.rq rq0)]:=by
  refine spcG zu mixed Tryz.func8 (by kernel_rfl) { cfgQ with keep:=some [0]} [zcj,zci] (by kernel_rfl) ?_
  intro I X hI hX
  refine zh (.need (I.hid (α:=(Prop)) True) (.fin (.ret (.v (.one (.ptr 0 0)))) [(.abs (.rq (Go.Ab.Rq.mk (Go.Ab.Ln.mk (I.hid (α:=Str) ([]:Str)) Bool.false (0:Int)) (0:Int) (Hd.mk ([]:Str) ([]:Str) (0:Int) ([]:List Fld) (0:Int)) (0:Int) (Option.none) Bool.true ([]:List Go.Ab.Evt))))])) (by kernel_rfl) ?_
  simp only [zC]
  subst hI
  simp only [nrmA,nrmB,nrlB,reduceCtorEq,HO.abs.injEq,Gh.rq.injEq,Rq.mk.injEq]
  rfl
def XA (I:Alg) (args:List D) (hp:List HO):Option CT:=match args,hp with
  |[],[]=>(fun(_:Unit)=>(some (.one ⟨I.hid (True),(.ret (.v (.one (.ptr 0 0)))),[.abs (.rq rq0)]⟩):Option CT)) ()
  |_,_=>none
theorem zbR:zI Tryz.prog 8 (XA alg):=by
  intro args hp r h
  unfold XA at h
  split at h
  · cases h;exact fun hn=>zjk
  · cases h
def Xz:Know Tryz.prog:=⟨8,XA,zbR⟩
def Xy:Know Tryz.prog:=⟨8,fun I=>zK I (XA I),zf zbR⟩
theorem zbO (ln:Ln) (p:Int) (m tg:Str) (hm:Int) (hf:List Fld) (hl le:Int) (out:List Evt) (k:Int) (ea eb:Str) (ei:Int) (ef:List Fld) (en:Int) (ebs ex ey ez et:Str) (ec:Int) (hneed:zA ⟨ln,p,⟨m,tg,hm,hf,hl⟩,le,none,true,out⟩):Spc Tryz.prog 45 [.v (.one (.ptr 0 0)),.v (.agg [(.p (.int .i64 k)),(.p (.str ea)),(.p (.str eb)),(.p (.int .i64 ei)),(.p (.list .fld ef)),(.p (.int .i64 en)),(.p (.list .byte ebs)),(.p (.str ex)),(.p (.str ey)),(.p (.str ez)),(.p (.list .byte et)),(.p (.int .i64 ec))])] [.abs (.rq ⟨ln,p,⟨m,tg,hm,hf,hl⟩,le,none,true,out⟩)] (.ret (.tup [])) [.abs (.rq ⟨ln,p,⟨m,tg,hm,hf,hl⟩,le,none,true,(out++[⟨k,⟨ea,eb,ei,ef,en⟩,ebs,⟨ex,ey,ez,et⟩,ec⟩])⟩)]:=by
  unfold zA at hneed
  simp only at hneed
  refine spcG zu mixed Tryz.func45 (by kernel_rfl) { cfgQ with keep:=some [0,1,3]} [] (by kernel_rfl) ?_
  intro I X hI hX
  refine zh (let y0:=I.few (I.add (I.len (α:=Go.Ab.Evt) out) (I.len (α:=Go.Ab.Evt) ([(Go.Ab.Evt.mk k (Hd.mk ea eb ei ef en) ebs (Go.Ab.Prt.mk ex ey ez et) ec)]:List Go.Ab.Evt))) 100000000;.both (.need y0 (.fin (.ret (.tup [])) [(.abs (.rq (Go.Ab.Rq.mk (Go.Ab.Ln.mk (Go.Ab.Ln.b ln) (Go.Ab.Ln.cr ln) (Go.Ab.Ln.code ln)) p (Hd.mk m tg hm hf hl) le (Option.none) Bool.true (I.app (α:=Go.Ab.Evt) out ([(Go.Ab.Evt.mk k (Hd.mk ea eb ei ef en) ebs (Go.Ab.Prt.mk ex ey ez et) ec)]:List Go.Ab.Evt)))))])) (.need y0 (.fin (.ret (.tup [])) [(.abs (.rq (Go.Ab.Rq.mk (Go.Ab.Ln.mk (Go.Ab.Ln.b ln) (Go.Ab.Ln.cr ln) (Go.Ab.Ln.code ln)) p (Hd.mk m tg hm hf hl) le (Option.none) Bool.true (I.app (α:=Go.Ab.Evt) out ([(Go.Ab.Evt.mk k (Hd.mk ea eb ei ef en) ebs (Go.Ab.Prt.mk ex ey ez et) ec)]:List Go.Ab.Evt)))))]))) (by kernel_rfl) ?_
  simp only [zC]
  subst hI
  simp only [nrmA,nrmB,nrlB,reduceCtorEq,HO.abs.injEq,Gh.rq.injEq,Rq.mk.injEq]
  (repeat' (first|refine And.intro ?_ ?_|intro _))<;>first|omega|exact True.intro|exact False.elim ‹False›|skip
  all_goals first
    |omega
    |rfl
    |with_reducible assumption
    |(simp only [List.length_cons,List.length_nil];omega)
    |(simp;done)
def rQ (I:Alg) (args:List D) (hp:List HO):Option CT:=match args,hp with
  |[.v (.one (.ptr 0 0)),.v (.agg [(.p (.int .i64 k)),(.p (.str ea)),(.p (.str eb)),(.p (.int .i64 ei)),(.p (.list .fld ef)),(.p (.int .i64 en)),(.p (.list .byte ebs)),(.p (.str ex)),(.p (.str ey)),(.p (.str ez)),(.p (.list .byte et)),(.p (.int .i64 ec))])],[.abs (.rq ⟨ln,p,⟨m,tg,hm,hf,hl⟩,le,none,true,out⟩)]=>(fun(ln:Ln) (p:Int) (m tg:Str) (hm:Int) (hf:List Fld) (hl le:Int) (out:List Evt) (k:Int) (ea eb:Str) (ei:Int) (ef:List Fld) (en:Int) (ebs ex ey ez et:Str) (ec:Int)=>(some (.one ⟨I.hid (zA ⟨ln,p,⟨m,tg,hm,hf,hl⟩,le,none,true,out⟩),(.ret (.tup [])),[.abs (.rq ⟨ln,p,⟨m,tg,hm,hf,hl⟩,le,none,true,(I.hid (out++[⟨k,⟨ea,eb,ei,ef,en⟩,ebs,⟨ex,ey,ez,et⟩,ec⟩]))⟩)]⟩):Option CT)) ln p m tg hm hf hl le out k ea eb ei ef en ebs ex ey ez et ec
  |_,_=>none
theorem VZ:zI Tryz.prog 45 (rQ alg):=by
  intro args hp r h
  unfold rQ at h
  split at h
  · cases h;exact fun hn=>zbO _ _ _ _ _ _ _ _ _ _ _ _ _ _ _ _ _ _ _ _ _ hn
  · cases h
def zT:Know Tryz.prog:=⟨45,rQ,VZ⟩
def zS:Know Tryz.prog:=⟨45,fun I=>zK I (rQ I),zf VZ⟩
theorem zbP (ln:Ln) (p:Int) (m tg:Str) (hm:Int) (hf:List Fld) (hl le:Int) (out:List Evt) (k:Int) (ea eb:Str) (ei:Int) (ef:List Fld) (en:Int) (ebs ex ey ez et:Str) (ec:Int) (hneed:zA ⟨ln,p,⟨m,tg,hm,hf,hl⟩,le,none,false,out⟩):Spc Tryz.prog 45 [.v (.one (.ptr 0 0)),.v (.agg [(.p (.int .i64 k)),(.p (.str ea)),(.p (.str eb)),(.p (.int .i64 ei)),(.p (.list .fld ef)),(.p (.int .i64 en)),(.p (.list .byte ebs)),(.p (.str ex)),(.p (.str ey)),(.p (.str ez)),(.p (.list .byte et)),(.p (.int .i64 ec))])] [.abs (.rq ⟨ln,p,⟨m,tg,hm,hf,hl⟩,le,none,false,out⟩)] (.ret (.tup [])) [.abs (.rq ⟨ln,p,⟨m,tg,hm,hf,hl⟩,le,none,false,(out++[⟨k,⟨ea,eb,ei,ef,en⟩,ebs,⟨ex,ey,ez,et⟩,ec⟩])⟩)]:=by
  unfold zA at hneed
  simp only at hneed
  refine spcG zu mixed Tryz.func45 (by kernel_rfl) { cfgQ with keep:=some [0,1,3]} [zT,zS] (by kernel_rfl) ?_
  intro I X hI hX
  refine zh (let y0:=I.few (I.add (I.len (α:=Go.Ab.Evt) out) (I.len (α:=Go.Ab.Evt) ([(Go.Ab.Evt.mk k (Hd.mk ea eb ei ef en) ebs (Go.Ab.Prt.mk ex ey ez et) ec)]:List Go.Ab.Evt))) 100000000;.both (.need y0 (.fin (.ret (.tup [])) [(.abs (.rq (Go.Ab.Rq.mk (Go.Ab.Ln.mk (Go.Ab.Ln.b ln) (Go.Ab.Ln.cr ln) (Go.Ab.Ln.code ln)) p (Hd.mk m tg hm hf hl) le (Option.none) Bool.false (I.app (α:=Go.Ab.Evt) out ([(Go.Ab.Evt.mk k (Hd.mk ea eb ei ef en) ebs (Go.Ab.Prt.mk ex ey ez et) ec)]:List Go.Ab.Evt)))))])) (.need y0 (.fin (.ret (.tup [])) [(.abs (.rq (Go.Ab.Rq.mk (Go.Ab.Ln.mk (Go.Ab.Ln.b ln) (Go.Ab.Ln.cr ln) (Go.Ab.Ln.code ln)) p (Hd.mk m tg hm hf hl) le (Option.none) Bool.false (I.app (α:=Go.Ab.Evt) out ([(Go.Ab.Evt.mk k (Hd.mk ea eb ei ef en) ebs (Go.Ab.Prt.mk ex ey ez et) ec)]:List Go.Ab.Evt)))))]))) (by kernel_rfl) ?_
  simp only [zC]
  subst hI
  simp only [nrmA,nrmB,nrlB,reduceCtorEq,HO.abs.injEq,Gh.rq.injEq,Rq.mk.injEq]
  (repeat' (first|refine And.intro ?_ ?_|intro _))<;>first|omega|exact True.intro|exact False.elim ‹False›|skip
  all_goals first
    |omega
    |rfl
    |with_reducible assumption
    |(simp only [List.length_cons,List.length_nil];omega)
    |(simp;done)
def rU (I:Alg) (args:List D) (hp:List HO):Option CT:=match args,hp with
  |[.v (.one (.ptr 0 0)),.v (.agg [(.p (.int .i64 k)),(.p (.str ea)),(.p (.str eb)),(.p (.int .i64 ei)),(.p (.list .fld ef)),(.p (.int .i64 en)),(.p (.list .byte ebs)),(.p (.str ex)),(.p (.str ey)),(.p (.str ez)),(.p (.list .byte et)),(.p (.int .i64 ec))])],[.abs (.rq ⟨ln,p,⟨m,tg,hm,hf,hl⟩,le,none,false,out⟩)]=>(fun(ln:Ln) (p:Int) (m tg:Str) (hm:Int) (hf:List Fld) (hl le:Int) (out:List Evt) (k:Int) (ea eb:Str) (ei:Int) (ef:List Fld) (en:Int) (ebs ex ey ez et:Str) (ec:Int)=>(some (.one ⟨I.hid (zA ⟨ln,p,⟨m,tg,hm,hf,hl⟩,le,none,false,out⟩),(.ret (.tup [])),[.abs (.rq ⟨ln,p,⟨m,tg,hm,hf,hl⟩,le,none,false,(I.hid (out++[⟨k,⟨ea,eb,ei,ef,en⟩,ebs,⟨ex,ey,ez,et⟩,ec⟩]))⟩)]⟩):Option CT)) ln p m tg hm hf hl le out k ea eb ei ef en ebs ex ey ez et ec
  |_,_=>none
theorem V3:zI Tryz.prog 45 (rU alg):=by
  intro args hp r h
  unfold rU at h
  split at h
  · cases h;exact fun hn=>zbP _ _ _ _ _ _ _ _ _ _ _ _ _ _ _ _ _ _ _ _ _ hn
  · cases h
def zZ:Know Tryz.prog:=⟨45,rU,V3⟩
def zY:Know Tryz.prog:=⟨45,fun I=>zK I (rU I),zf V3⟩
theorem zbM (ln:Ln) (p:Int) (m tg:Str) (hm:Int) (hf:List Fld) (hl le:Int) (ch:Ch) (out:List Evt) (k:Int) (ea eb:Str) (ei:Int) (ef:List Fld) (en:Int) (ebs ex ey ez et:Str) (ec:Int) (hneed:zA ⟨ln,p,⟨m,tg,hm,hf,hl⟩,le,some ch,true,out⟩):Spc Tryz.prog 45 [.v (.one (.ptr 0 0)),.v (.agg [(.p (.int .i64 k)),(.p (.str ea)),(.p (.str eb)),(.p (.int .i64 ei)),(.p (.list .fld ef)),(.p (.int .i64 en)),(.p (.list .byte ebs)),(.p (.str ex)),(.p (.str ey)),(.p (.str ez)),(.p (.list .byte et)),(.p (.int .i64 ec))])] [.abs (.rq ⟨ln,p,⟨m,tg,hm,hf,hl⟩,le,some ch,true,out⟩)] (.ret (.tup [])) [.abs (.rq ⟨ln,p,⟨m,tg,hm,hf,hl⟩,le,some ch,true,(out++[⟨k,⟨ea,eb,ei,ef,en⟩,ebs,⟨ex,ey,ez,et⟩,ec⟩])⟩)]:=by
  unfold zA at hneed
  simp only at hneed
  refine spcG zu mixed Tryz.func45 (by kernel_rfl) { cfgQ with keep:=some [0,1,3]} [zT,zS,zZ,zY] (by kernel_rfl) ?_
  intro I X hI hX
  refine zh (let y0:=I.few (I.add (I.len (α:=Go.Ab.Evt) out) (I.len (α:=Go.Ab.Evt) ([(Go.Ab.Evt.mk k (Hd.mk ea eb ei ef en) ebs (Go.Ab.Prt.mk ex ey ez et) ec)]:List Go.Ab.Evt))) 100000000;.both (.need y0 (.fin (.ret (.tup [])) [(.abs (.rq (Go.Ab.Rq.mk (Go.Ab.Ln.mk (Go.Ab.Ln.b ln) (Go.Ab.Ln.cr ln) (Go.Ab.Ln.code ln)) p (Hd.mk m tg hm hf hl) le (Option.some (Go.Ab.Ch.mk (Go.Ab.Ln.mk (Go.Ab.Ln.b (Go.Ab.Ch.ln ch)) (Go.Ab.Ln.cr (Go.Ab.Ch.ln ch)) (Go.Ab.Ln.code (Go.Ab.Ch.ln ch))) (Go.Ab.Ch.pos ch) (Go.Ab.Ch.left ch) (Go.Ab.Ch.all ch) (Go.Ab.Ch.tails ch) (Go.Ab.Ch.code ch))) Bool.true (I.app (α:=Go.Ab.Evt) out ([(Go.Ab.Evt.mk k (Hd.mk ea eb ei ef en) ebs (Go.Ab.Prt.mk ex ey ez et) ec)]:List Go.Ab.Evt)))))])) (.need y0 (.fin (.ret (.tup [])) [(.abs (.rq (Go.Ab.Rq.mk (Go.Ab.Ln.mk (Go.Ab.Ln.b ln) (Go.Ab.Ln.cr ln) (Go.Ab.Ln.code ln)) p (Hd.mk m tg hm hf hl) le (Option.some (Go.Ab.Ch.mk (Go.Ab.Ln.mk (Go.Ab.Ln.b (Go.Ab.Ch.ln ch)) (Go.Ab.Ln.cr (Go.Ab.Ch.ln ch)) (Go.Ab.Ln.code (Go.Ab.Ch.ln ch))) (Go.Ab.Ch.pos ch) (Go.Ab.Ch.left ch) (Go.Ab.Ch.all ch) (Go.Ab.Ch.tails ch) (Go.Ab.Ch.code ch))) Bool.true (I.app (α:=Go.Ab.Evt) out ([(Go.Ab.Evt.mk k (Hd.mk ea eb ei ef en) ebs (Go.Ab.Prt.mk ex ey ez et) ec)]:List Go.Ab.Evt)))))]))) (by kernel_rfl) ?_
  simp only [zC]
  subst hI
  simp only [nrmA,nrmB,nrlB,reduceCtorEq,HO.abs.injEq,Gh.rq.injEq,Rq.mk.injEq]
  (repeat' (first|refine And.intro ?_ ?_|intro _))<;>first|omega|exact True.intro|exact False.elim ‹False›|skip
  all_goals first
    |omega
    |rfl
    |with_reducible assumption
    |(simp only [List.length_cons,List.length_nil];omega)
    |(simp;done)
def rO (I:Alg) (args:List D) (hp:List HO):Option CT:=match args,hp with
  |[.v (.one (.ptr 0 0)),.v (.agg [(.p (.int .i64 k)),(.p (.str ea)),(.p (.str eb)),(.p (.int .i64 ei)),(.p (.list .fld ef)),(.p (.int .i64 en)),(.p (.list .byte ebs)),(.p (.str ex)),(.p (.str ey)),(.p (.str ez)),(.p (.list .byte et)),(.p (.int .i64 ec))])],[.abs (.rq ⟨ln,p,⟨m,tg,hm,hf,hl⟩,le,some ch,true,out⟩)]=>(fun(ln:Ln) (p:Int) (m tg:Str) (hm:Int) (hf:List Fld) (hl le:Int) (ch:Ch) (out:List Evt) (k:Int) (ea eb:Str) (ei:Int) (ef:List Fld) (en:Int) (ebs ex ey ez et:Str) (ec:Int)=>(some (.one ⟨I.hid (zA ⟨ln,p,⟨m,tg,hm,hf,hl⟩,le,some ch,true,out⟩),(.ret (.tup [])),[.abs (.rq ⟨ln,p,⟨m,tg,hm,hf,hl⟩,le,some ch,true,(I.hid (out++[⟨k,⟨ea,eb,ei,ef,en⟩,ebs,⟨ex,ey,ez,et⟩,ec⟩]))⟩)]⟩):Option CT)) ln p m tg hm hf hl le ch out k ea eb ei ef en ebs ex ey ez et ec
  |_,_=>none
theorem VX:zI Tryz.prog 45 (rO alg):=by
  intro args hp r h
  unfold rO at h
  split at h
  · cases h;exact fun hn=>zbM _ _ _ _ _ _ _ _ _ _ _ _ _ _ _ _ _ _ _ _ _ _ hn
  · cases h
def yj:Know Tryz.prog:=⟨45,rO,VX⟩
def yh:Know Tryz.prog:=⟨45,fun I=>zK I (rO I),zf VX⟩
theorem zbN (ln:Ln) (p:Int) (m tg:Str) (hm:Int) (hf:List Fld) (hl le:Int) (ch:Ch) (out:List Evt) (k:Int) (ea eb:Str) (ei:Int) (ef:List Fld) (en:Int) (ebs ex ey ez et:Str) (ec:Int) (hneed:zA ⟨ln,p,⟨m,tg,hm,hf,hl⟩,le,some ch,false,out⟩):Spc Tryz.prog 45 [.v (.one (.ptr 0 0)),.v (.agg [(.p (.int .i64 k)),(.p (.str ea)),(.p (.str eb)),(.p (.int .i64 ei)),(.p (.list .fld ef)),(.p (.int .i64 en)),(.p (.list .byte ebs)),(.p (.str ex)),(.p (.str ey)),(.p (.str ez)),(.p (.list .byte et)),(.p (.int .i64 ec))])] [.abs (.rq ⟨ln,p,⟨m,tg,hm,hf,hl⟩,le,some ch,false,out⟩)] (.ret (.tup [])) [.abs (.rq ⟨ln,p,⟨m,tg,hm,hf,hl⟩,le,some ch,false,(out++[⟨k,⟨ea,eb,ei,ef,en⟩,ebs,⟨ex,ey,ez,et⟩,ec⟩])⟩)]:=by
  unfold zA at hneed
  simp only at hneed
  refine spcG zu mixed Tryz.func45 (by kernel_rfl) { cfgQ with keep:=some [0,1,3]} [zT,zS,zZ,zY,yj,yh] (by kernel_rfl) ?_
  intro I X hI hX
  refine zh (let y0:=I.few (I.add (I.len (α:=Go.Ab.Evt) out) (I.len (α:=Go.Ab.Evt) ([(Go.Ab.Evt.mk k (Hd.mk ea eb ei ef en) ebs (Go.Ab.Prt.mk ex ey ez et) ec)]:List Go.Ab.Evt))) 100000000;.both (.need y0 (.fin (.ret (.tup [])) [(.abs (.rq (Go.Ab.Rq.mk (Go.Ab.Ln.mk (Go.Ab.Ln.b ln) (Go.Ab.Ln.cr ln) (Go.Ab.Ln.code ln)) p (Hd.mk m tg hm hf hl) le (Option.some (Go.Ab.Ch.mk (Go.Ab.Ln.mk (Go.Ab.Ln.b (Go.Ab.Ch.ln ch)) (Go.Ab.Ln.cr (Go.Ab.Ch.ln ch)) (Go.Ab.Ln.code (Go.Ab.Ch.ln ch))) (Go.Ab.Ch.pos ch) (Go.Ab.Ch.left ch) (Go.Ab.Ch.all ch) (Go.Ab.Ch.tails ch) (Go.Ab.Ch.code ch))) Bool.false (I.app (α:=Go.Ab.Evt) out ([(Go.Ab.Evt.mk k (Hd.mk ea eb ei ef en) ebs (Go.Ab.Prt.mk ex ey ez et) ec)]:List Go.Ab.Evt)))))])) (.need y0 (.fin (.ret (.tup [])) [(.abs (.rq (Go.Ab.Rq.mk (Go.Ab.Ln.mk (Go.Ab.Ln.b ln) (Go.Ab.Ln.cr ln) (Go.Ab.Ln.code ln)) p (Hd.mk m tg hm hf hl) le (Option.some (Go.Ab.Ch.mk (Go.Ab.Ln.mk (Go.Ab.Ln.b (Go.Ab.Ch.ln ch)) (Go.Ab.Ln.cr (Go.Ab.Ch.ln ch)) (Go.Ab.Ln.code (Go.Ab.Ch.ln ch))) (Go.Ab.Ch.pos ch) (Go.Ab.Ch.left ch) (Go.Ab.Ch.all ch) (Go.Ab.Ch.tails ch) (Go.Ab.Ch.code ch))) Bool.false (I.app (α:=Go.Ab.Evt) out ([(Go.Ab.Evt.mk k (Hd.mk ea eb ei ef en) ebs (Go.Ab.Prt.mk ex ey ez et) ec)]:List Go.Ab.Evt)))))]))) (by kernel_rfl) ?_
  simp only [zC]
  subst hI
  simp only [nrmA,nrmB,nrlB,reduceCtorEq,HO.abs.injEq,Gh.rq.injEq,Rq.mk.injEq]
  (repeat' (first|refine And.intro ?_ ?_|intro _))<;>first|omega|exact True.intro|exact False.elim ‹False›|skip
  all_goals first
    |omega
    |rfl
    |with_reducible assumption
    |(simp only [List.length_cons,List.length_nil];omega)
    |(simp;done)
def rP (I:Alg) (args:List D) (hp:List HO):Option CT:=match args,hp with
  |[.v (.one (.ptr 0 0)),.v (.agg [(.p (.int .i64 k)),(.p (.str ea)),(.p (.str eb)),(.p (.int .i64 ei)),(.p (.list .fld ef)),(.p (.int .i64 en)),(.p (.list .byte ebs)),(.p (.str ex)),(.p (.str ey)),(.p (.str ez)),(.p (.list .byte et)),(.p (.int .i64 ec))])],[.abs (.rq ⟨ln,p,⟨m,tg,hm,hf,hl⟩,le,some ch,false,out⟩)]=>(fun(ln:Ln) (p:Int) (m tg:Str) (hm:Int) (hf:List Fld) (hl le:Int) (ch:Ch) (out:List Evt) (k:Int) (ea eb:Str) (ei:Int) (ef:List Fld) (en:Int) (ebs ex ey ez et:Str) (ec:Int)=>(some (.one ⟨I.hid (zA ⟨ln,p,⟨m,tg,hm,hf,hl⟩,le,some ch,false,out⟩),(.ret (.tup [])),[.abs (.rq ⟨ln,p,⟨m,tg,hm,hf,hl⟩,le,some ch,false,(I.hid (out++[⟨k,⟨ea,eb,ei,ef,en⟩,ebs,⟨ex,ey,ez,et⟩,ec⟩]))⟩)]⟩):Option CT)) ln p m tg hm hf hl le ch out k ea eb ei ef en ebs ex ey ez et ec
  |_,_=>none
theorem VY:zI Tryz.prog 45 (rP alg):=by
  intro args hp r h
  unfold rP at h
  split at h
  · cases h;exact fun hn=>zbN _ _ _ _ _ _ _ _ _ _ _ _ _ _ _ _ _ _ _ _ _ _ hn
  · cases h
def yB:Know Tryz.prog:=⟨45,rP,VY⟩
def yA:Know Tryz.prog:=⟨45,fun I=>zK I (rP I),zf VY⟩
theorem zji (q:Rq) (k:Int) (ea eb:Str) (ei:Int) (ef:List Fld) (en:Int) (ebs ex ey ez et:Str) (ec:Int) (hneed:zA q):Spc Tryz.prog 45 [.v (.one (.ptr 0 0)),.v (.agg [(.p (.int .i64 k)),(.p (.str ea)),(.p (.str eb)),(.p (.int .i64 ei)),(.p (.list .fld ef)),(.p (.int .i64 en)),(.p (.list .byte ebs)),(.p (.str ex)),(.p (.str ey)),(.p (.str ez)),(.p (.list .byte et)),(.p (.int .i64 ec))])] [.abs (.rq q)] (.ret (.tup [])) [.abs (.rq ((zjj q ⟨k,⟨ea,eb,ei,ef,en⟩,ebs,⟨ex,ey,ez,et⟩,ec⟩)))]:=by
  obtain⟨ln,p,⟨m,tg,hm,hf,hl⟩,le,ck,own,out⟩:=q
  cases ck with
  | none=>cases own with
    |true=>exact zbO ln p m tg hm hf hl le out k ea eb ei ef en ebs ex ey ez et ec hneed
    |false=>exact zbP ln p m tg hm hf hl le out k ea eb ei ef en ebs ex ey ez et ec hneed
  | some ch=>cases own with
    |true=>exact zbM ln p m tg hm hf hl le ch out k ea eb ei ef en ebs ex ey ez et ec hneed
    |false=>exact zbN ln p m tg hm hf hl le ch out k ea eb ei ef en ebs ex ey ez et ec hneed
def Xx (I:Alg) (args:List D) (hp:List HO):Option CT:=match args,hp with
  |[.v (.one (.ptr 0 0)),.v (.agg [(.p (.int .i64 k)),(.p (.str ea)),(.p (.str eb)),(.p (.int .i64 ei)),(.p (.list .fld ef)),(.p (.int .i64 en)),(.p (.list .byte ebs)),(.p (.str ex)),(.p (.str ey)),(.p (.str ez)),(.p (.list .byte et)),(.p (.int .i64 ec))])],[.abs (.rq q)]=>(fun(q:Rq) (k:Int) (ea eb:Str) (ei:Int) (ef:List Fld) (en:Int) (ebs ex ey ez et:Str) (ec:Int)=>(some (.one ⟨I.hid (zA q),(.ret (.tup [])),[.abs (.rq (I.hid ((zjj q ⟨k,⟨ea,eb,ei,ef,en⟩,ebs,⟨ex,ey,ez,et⟩,ec⟩))))]⟩):Option CT)) q k ea eb ei ef en ebs ex ey ez et ec
  |_,_=>none
theorem zbQ:zI Tryz.prog 45 (Xx alg):=by
  intro args hp r h
  unfold Xx at h
  split at h
  · cases h;exact fun hn=>zji _ _ _ _ _ _ _ _ _ _ _ _ _ hn
  · cases h
def xC:Know Tryz.prog:=⟨45,Xx,zbQ⟩
def xB:Know Tryz.prog:=⟨45,fun I=>zK I (Xx I),zf zbQ⟩
theorem zeF (ln:Ln) (p:Int) (m tg:Str) (hm:Int) (hf:List Fld) (hl le:Int) (out:List Evt) (c:Int) (hneed:zA ⟨ln,p,⟨m,tg,hm,hf,hl⟩,le,none,true,out⟩):Spc Tryz.prog 48 [.v (.one (.ptr 0 0)),.v (.one (.p (.int .i64 c)))] [.abs (.rq ⟨ln,p,⟨m,tg,hm,hf,hl⟩,le,none,true,out⟩)] (.ret (.tup [])) [.abs (.rq ((zX ⟨ln,p,⟨m,tg,hm,hf,hl⟩,le,none,true,out⟩ c)))]:=by
  unfold zA at hneed
  simp only at hneed
  refine spcG zu mixed Tryz.func48 (by kernel_rfl) { cfgQ with keep:=some [0,1]} [zT,zS,zZ,zY,yj,yh,yB,yA,xC,xB] (by kernel_rfl) ?_
  intro I X hI hX
  refine zh (.need (I.hid (α:=(Prop)) (zA (Go.Ab.Rq.mk (Go.Ab.Ln.mk (Go.Ab.Ln.b ln) (Go.Ab.Ln.cr ln) (Go.Ab.Ln.code ln)) (4:Int) (Hd.mk m tg hm hf hl) le (Option.none) Bool.true out))) (.fin (.ret (.tup [])) [(.abs (.rq (Go.Ab.Rq.mk (Go.Ab.Ln.mk (Go.Ab.Ln.b ln) (Go.Ab.Ln.cr ln) (Go.Ab.Ln.code ln)) (4:Int) (Hd.mk m tg hm hf hl) le (Option.none) Bool.true (I.hid (α:=(List Go.Ab.Evt)) (HAppend.hAppend out ([(Go.Ab.Evt.mk (4:Int) (Hd.mk ([]:Str) ([]:Str) (0:Int) ([]:List Fld) (0:Int)) ([]:Str) (Go.Ab.Prt.mk ([]:Str) ([]:Str) ([]:Str) ([]:Str)) c)]:List Go.Ab.Evt))))))])) (by kernel_rfl) ?_
  simp only [zC]
  subst hI
  simp only [nrmA,nrmB,nrlB,reduceCtorEq,HO.abs.injEq,Gh.rq.injEq,Rq.mk.injEq]
  (repeat' (first|refine And.intro ?_ ?_|intro _))<;>first|omega|exact True.intro|exact False.elim ‹False›|skip
  all_goals first
    |omega
    |rfl
    |with_reducible assumption
    |(simp only [List.length_cons,List.length_nil];omega)
    |(unfold zA;simp only;omega)
    |(simp;done)
theorem zeG (ln:Ln) (p:Int) (m tg:Str) (hm:Int) (hf:List Fld) (hl le:Int) (out:List Evt) (c:Int) (hneed:zA ⟨ln,p,⟨m,tg,hm,hf,hl⟩,le,none,false,out⟩):Spc Tryz.prog 48 [.v (.one (.ptr 0 0)),.v (.one (.p (.int .i64 c)))] [.abs (.rq ⟨ln,p,⟨m,tg,hm,hf,hl⟩,le,none,false,out⟩)] (.ret (.tup [])) [.abs (.rq ((zX ⟨ln,p,⟨m,tg,hm,hf,hl⟩,le,none,false,out⟩ c)))]:=by
  unfold zA at hneed
  simp only at hneed
  refine spcG zu mixed Tryz.func48 (by kernel_rfl) { cfgQ with keep:=some [0,1]} [zT,zS,zZ,zY,yj,yh,yB,yA,xC,xB] (by kernel_rfl) ?_
  intro I X hI hX
  refine zh (.need (I.hid (α:=(Prop)) (zA (Go.Ab.Rq.mk (Go.Ab.Ln.mk (Go.Ab.Ln.b ln) (Go.Ab.Ln.cr ln) (Go.Ab.Ln.code ln)) (4:Int) (Hd.mk m tg hm hf hl) le (Option.none) Bool.false out))) (.fin (.ret (.tup [])) [(.abs (.rq (Go.Ab.Rq.mk (Go.Ab.Ln.mk (Go.Ab.Ln.b ln) (Go.Ab.Ln.cr ln) (Go.Ab.Ln.code ln)) (4:Int) (Hd.mk m tg hm hf hl) le (Option.none) Bool.false (I.hid (α:=(List Go.Ab.Evt)) (HAppend.hAppend out ([(Go.Ab.Evt.mk (4:Int) (Hd.mk ([]:Str) ([]:Str) (0:Int) ([]:List Fld) (0:Int)) ([]:Str) (Go.Ab.Prt.mk ([]:Str) ([]:Str) ([]:Str) ([]:Str)) c)]:List Go.Ab.Evt))))))])) (by kernel_rfl) ?_
  simp only [zC]
  subst hI
  simp only [nrmA,nrmB,nrlB,reduceCtorEq,HO.abs.injEq,Gh.rq.injEq,Rq.mk.injEq]
  (repeat' (first|refine And.intro ?_ ?_|intro _))<;>first|omega|exact True.intro|exact False.elim ‹False›|skip
  all_goals first
    |omega
    |rfl
    |with_reducible assumption
    |(simp only [List.length_cons,List.length_nil];omega)
    |(unfold zA;simp only;omega)
    |(simp;done)
theorem zeD (ln:Ln) (p:Int) (m tg:Str) (hm:Int) (hf:List Fld) (hl le:Int) (ch:Ch) (out:List Evt) (c:Int) (hneed:zA ⟨ln,p,⟨m,tg,hm,hf,hl⟩,le,some ch,true,out⟩):Spc Tryz.prog 48 [.v (.one (.ptr 0 0)),.v (.one (.p (.int .i64 c)))] [.abs (.rq ⟨ln,p,⟨m,tg,hm,hf,hl⟩,le,some ch,true,out⟩)] (.ret (.tup [])) [.abs (.rq ((zX ⟨ln,p,⟨m,tg,hm,hf,hl⟩,le,some ch,true,out⟩ c)))]:=by
  unfold zA at hneed
  simp only at hneed
  refine spcG zu mixed Tryz.func48 (by kernel_rfl) { cfgQ with keep:=some [0,1]} [zT,zS,zZ,zY,yj,yh,yB,yA,xC,xB] (by kernel_rfl) ?_
  intro I X hI hX
  refine zh (.need (I.hid (α:=(Prop)) (zA (Go.Ab.Rq.mk (Go.Ab.Ln.mk (Go.Ab.Ln.b ln) (Go.Ab.Ln.cr ln) (Go.Ab.Ln.code ln)) (4:Int) (Hd.mk m tg hm hf hl) le (Option.some (Go.Ab.Ch.mk (Go.Ab.Ln.mk (Go.Ab.Ln.b (Go.Ab.Ch.ln ch)) (Go.Ab.Ln.cr (Go.Ab.Ch.ln ch)) (Go.Ab.Ln.code (Go.Ab.Ch.ln ch))) (Go.Ab.Ch.pos ch) (Go.Ab.Ch.left ch) (Go.Ab.Ch.all ch) (Go.Ab.Ch.tails ch) (Go.Ab.Ch.code ch))) Bool.true out))) (.fin (.ret (.tup [])) [(.abs (.rq (Go.Ab.Rq.mk (Go.Ab.Ln.mk (Go.Ab.Ln.b ln) (Go.Ab.Ln.cr ln) (Go.Ab.Ln.code ln)) (4:Int) (Hd.mk m tg hm hf hl) le (Option.some (Go.Ab.Ch.mk (Go.Ab.Ln.mk (Go.Ab.Ln.b (Go.Ab.Ch.ln ch)) (Go.Ab.Ln.cr (Go.Ab.Ch.ln ch)) (Go.Ab.Ln.code (Go.Ab.Ch.ln ch))) (Go.Ab.Ch.pos ch) (Go.Ab.Ch.left ch) (Go.Ab.Ch.all ch) (Go.Ab.Ch.tails ch) (Go.Ab.Ch.code ch))) Bool.true (I.hid (α:=(List Go.Ab.Evt)) (HAppend.hAppend out ([(Go.Ab.Evt.mk (4:Int) (Hd.mk ([]:Str) ([]:Str) (0:Int) ([]:List Fld) (0:Int)) ([]:Str) (Go.Ab.Prt.mk ([]:Str) ([]:Str) ([]:Str) ([]:Str)) c)]:List Go.Ab.Evt))))))])) (by kernel_rfl) ?_
  simp only [zC]
  subst hI
  simp only [nrmA,nrmB,nrlB,reduceCtorEq,HO.abs.injEq,Gh.rq.injEq,Rq.mk.injEq]
  (repeat' (first|refine And.intro ?_ ?_|intro _))<;>first|omega|exact True.intro|exact False.elim ‹False›|skip
  all_goals first
    |omega
    |rfl
    |with_reducible assumption
    |(simp only [List.length_cons,List.length_nil];omega)
    |(unfold zA;simp only;omega)
    |(simp;done)
theorem zeE (ln:Ln) (p:Int) (m tg:Str) (hm:Int) (hf:List Fld) (hl le:Int) (ch:Ch) (out:List Evt) (c:Int) (hneed:zA ⟨ln,p,⟨m,tg,hm,hf,hl⟩,le,some ch,false,out⟩):Spc Tryz.prog 48 [.v (.one (.ptr 0 0)),.v (.one (.p (.int .i64 c)))] [.abs (.rq ⟨ln,p,⟨m,tg,hm,hf,hl⟩,le,some ch,false,out⟩)] (.ret (.tup [])) [.abs (.rq ((zX ⟨ln,p,⟨m,tg,hm,hf,hl⟩,le,some ch,false,out⟩ c)))]:=by
  unfold zA at hneed
  simp only at hneed
  refine spcG zu mixed Tryz.func48 (by kernel_rfl) { cfgQ with keep:=some [0,1]} [zT,zS,zZ,zY,yj,yh,yB,yA,xC,xB] (by kernel_rfl) ?_
  intro I X hI hX
  refine zh (.need (I.hid (α:=(Prop)) (zA (Go.Ab.Rq.mk (Go.Ab.Ln.mk (Go.Ab.Ln.b ln) (Go.Ab.Ln.cr ln) (Go.Ab.Ln.code ln)) (4:Int) (Hd.mk m tg hm hf hl) le (Option.some (Go.Ab.Ch.mk (Go.Ab.Ln.mk (Go.Ab.Ln.b (Go.Ab.Ch.ln ch)) (Go.Ab.Ln.cr (Go.Ab.Ch.ln ch)) (Go.Ab.Ln.code (Go.Ab.Ch.ln ch))) (Go.Ab.Ch.pos ch) (Go.Ab.Ch.left ch) (Go.Ab.Ch.all ch) (Go.Ab.Ch.tails ch) (Go.Ab.Ch.code ch))) Bool.false out))) (.fin (.ret (.tup [])) [(.abs (.rq (Go.Ab.Rq.mk (Go.Ab.Ln.mk (Go.Ab.Ln.b ln) (Go.Ab.Ln.cr ln) (Go.Ab.Ln.code ln)) (4:Int) (Hd.mk m tg hm hf hl) le (Option.some (Go.Ab.Ch.mk (Go.Ab.Ln.mk (Go.Ab.Ln.b (Go.Ab.Ch.ln ch)) (Go.Ab.Ln.cr (Go.Ab.Ch.ln ch)) (Go.Ab.Ln.code (Go.Ab.Ch.ln ch))) (Go.Ab.Ch.pos ch) (Go.Ab.Ch.left ch) (Go.Ab.Ch.all ch) (Go.Ab.Ch.tails ch) (Go.Ab.Ch.code ch))) Bool.false (I.hid (α:=(List Go.Ab.Evt)) (HAppend.hAppend out ([(Go.Ab.Evt.mk (4:Int) (Hd.mk ([]:Str) ([]:Str) (0:Int) ([]:List Fld) (0:Int)) ([]:Str) (Go.Ab.Prt.mk ([]:Str) ([]:Str) ([]:Str) ([]:Str)) c)]:List Go.Ab.Evt))))))])) (by kernel_rfl) ?_
  simp only [zC]
  subst hI
  simp only [nrmA,nrmB,nrlB,reduceCtorEq,HO.abs.injEq,Gh.rq.injEq,Rq.mk.injEq]
  (repeat' (first|refine And.intro ?_ ?_|intro _))<;>first|omega|exact True.intro|exact False.elim ‹False›|skip
  all_goals first
    |omega
    |rfl
    |with_reducible assumption
    |(simp only [List.length_cons,List.length_nil];omega)
    |(unfold zA;simp only;omega)
    |(simp;done)
theorem zii (q:Rq) (c:Int) (hneed:zA q):Spc Tryz.prog 48 [.v (.one (.ptr 0 0)),.v (.one (.p (.int .i64 c)))] [.abs (.rq q)] (.ret (.tup [])) [.abs (.rq ((zX q c)))]:=by
  obtain⟨ln,p,⟨m,tg,hm,hf,hl⟩,le,ck,own,out⟩:=q
  cases ck with
  | none=>cases own with
    |true=>exact zeF ln p m tg hm hf hl le out c hneed
    |false=>exact zeG ln p m tg hm hf hl le out c hneed
  | some ch=>cases own with
    |true=>exact zeD ln p m tg hm hf hl le ch out c hneed
    |false=>exact zeE ln p m tg hm hf hl le ch out c hneed
def Zw (I:Alg) (args:List D) (hp:List HO):Option CT:=match args,hp with
  |[.v (.one (.ptr 0 0)),.v (.one (.p (.int .i64 c)))],[.abs (.rq q)]=>(fun(q:Rq) (c:Int)=>(some (.one ⟨I.hid (zA q),(.ret (.tup [])),[.abs (.rq (I.hid ((zX q c))))]⟩):Option CT)) q c
  |_,_=>none
theorem RX:zI Tryz.prog 48 (Zw alg):=by
  intro args hp r h
  unfold Zw at h
  split at h
  · cases h;exact fun hn=>zii _ _ hn
  · cases h
def Zv:Know Tryz.prog:=⟨48,Zw,RX⟩
def Zu:Know Tryz.prog:=⟨48,fun I=>zK I (Zw I),zf RX⟩
theorem zg0 (ln:Ln) (p:Int) (m tg:Str) (hm:Int) (hf:List Fld) (hl le:Int) (out:List Evt) (hneed:zA ⟨ln,p,⟨m,tg,hm,hf,hl⟩,le,none,true,out⟩):Spc Tryz.prog 46 [.v (.one (.ptr 0 0))] [.abs (.rq ⟨ln,p,⟨m,tg,hm,hf,hl⟩,le,none,true,out⟩)] (.ret (.tup [])) [.abs (.rq ((yP ⟨ln,p,⟨m,tg,hm,hf,hl⟩,le,none,true,out⟩)))]:=by
  unfold zA at hneed
  simp only at hneed
  refine spcG zu mixed Tryz.func46 (by kernel_rfl) { cfgQ with keep:=some [0]} [zT,zS,zZ,zY,yj,yh,yB,yA,xC,xB] (by kernel_rfl) ?_
  intro I X hI hX
  refine zh (.need (I.hid (α:=(Prop)) (zA (Go.Ab.Rq.mk ln p (Hd.mk m tg hm hf hl) le (Option.none) Bool.true out))) (.fin (.ret (.tup [])) [(.abs (.rq (Go.Ab.Rq.mk (Go.Ab.Ln.mk (Go.Ab.Ln.b ln) (Go.Ab.Ln.cr ln) (Go.Ab.Ln.code ln)) (0:Int) (Hd.mk ([]:Str) ([]:Str) (0:Int) ([]:List Fld) (0:Int)) le (Option.none) Bool.true (I.hid (α:=(List Go.Ab.Evt)) (HAppend.hAppend out ([(Go.Ab.Evt.mk (3:Int) (Hd.mk ([]:Str) ([]:Str) (0:Int) ([]:List Fld) (0:Int)) ([]:Str) (Go.Ab.Prt.mk ([]:Str) ([]:Str) ([]:Str) ([]:Str)) (0:Int))]:List Go.Ab.Evt))))))])) (by kernel_rfl) ?_
  simp only [zC]
  subst hI
  simp only [nrmA,nrmB,nrlB,reduceCtorEq,HO.abs.injEq,Gh.rq.injEq,Rq.mk.injEq]
  (repeat' (first|refine And.intro ?_ ?_|intro _))<;>first|omega|exact True.intro|exact False.elim ‹False›|skip
  all_goals first
    |omega
    |rfl
    |with_reducible assumption
    |(simp only [List.length_cons,List.length_nil];omega)
    |(unfold zA;simp only;omega)
    |(simp;done)
theorem zg1 (ln:Ln) (p:Int) (m tg:Str) (hm:Int) (hf:List Fld) (hl le:Int) (out:List Evt) (hneed:zA ⟨ln,p,⟨m,tg,hm,hf,hl⟩,le,none,false,out⟩):Spc Tryz.prog 46 [.v (.one (.ptr 0 0))] [.abs (.rq ⟨ln,p,⟨m,tg,hm,hf,hl⟩,le,none,false,out⟩)] (.ret (.tup [])) [.abs (.rq ((yP ⟨ln,p,⟨m,tg,hm,hf,hl⟩,le,none,false,out⟩)))]:=by
  unfold zA at hneed
  simp only at hneed
  refine spcG zu mixed Tryz.func46 (by kernel_rfl) { cfgQ with keep:=some [0]} [zT,zS,zZ,zY,yj,yh,yB,yA,xC,xB] (by kernel_rfl) ?_
  intro I X hI hX
  refine zh (.need (I.hid (α:=(Prop)) (zA (Go.Ab.Rq.mk ln p (Hd.mk m tg hm hf hl) le (Option.none) Bool.false out))) (.fin (.ret (.tup [])) [(.abs (.rq (Go.Ab.Rq.mk (Go.Ab.Ln.mk (Go.Ab.Ln.b ln) (Go.Ab.Ln.cr ln) (Go.Ab.Ln.code ln)) (0:Int) (Hd.mk ([]:Str) ([]:Str) (0:Int) ([]:List Fld) (0:Int)) le (Option.none) Bool.true (I.hid (α:=(List Go.Ab.Evt)) (HAppend.hAppend out ([(Go.Ab.Evt.mk (3:Int) (Hd.mk ([]:Str) ([]:Str) (0:Int) ([]:List Fld) (0:Int)) ([]:Str) (Go.Ab.Prt.mk ([]:Str) ([]:Str) ([]:Str) ([]:Str)) (0:Int))]:List Go.Ab.Evt))))))])) (by kernel_rfl) ?_
  simp only [zC]
  subst hI
  simp only [nrmA,nrmB,nrlB,reduceCtorEq,HO.abs.injEq,Gh.rq.injEq,Rq.mk.injEq]
  (repeat' (first|refine And.intro ?_ ?_|intro _))<;>first|omega|exact True.intro|exact False.elim ‹False›|skip
  all_goals first
    |omega
    |rfl
    |with_reducible assumption
    |(simp only [List.length_cons,List.length_nil];omega)
    |(unfold zA;simp only;omega)
    |(simp;done)
theorem zgY (ln:Ln) (p:Int) (m tg:Str) (hm:Int) (hf:List Fld) (hl le:Int) (ch:Ch) (out:List Evt) (hneed:zA ⟨ln,p,⟨m,tg,hm,hf,hl⟩,le,some ch,true,out⟩):Spc Tryz.prog 46 [.v (.one (.ptr 0 0))] [.abs (.rq ⟨ln,p,⟨m,tg,hm,hf,hl⟩,le,some ch,true,out⟩)] (.ret (.tup [])) [.abs (.rq ((yP ⟨ln,p,⟨m,tg,hm,hf,hl⟩,le,some ch,true,out⟩)))]:=by
  unfold zA at hneed
  simp only at hneed
  refine spcG zu mixed Tryz.func46 (by kernel_rfl) { cfgQ with keep:=some [0]} [zT,zS,zZ,zY,yj,yh,yB,yA,xC,xB] (by kernel_rfl) ?_
  intro I X hI hX
  refine zh (.need (I.hid (α:=(Prop)) (zA (Go.Ab.Rq.mk ln p (Hd.mk m tg hm hf hl) le (Option.some ch) Bool.true out))) (.fin (.ret (.tup [])) [(.abs (.rq (Go.Ab.Rq.mk (Go.Ab.Ln.mk (Go.Ab.Ln.b ln) (Go.Ab.Ln.cr ln) (Go.Ab.Ln.code ln)) (0:Int) (Hd.mk ([]:Str) ([]:Str) (0:Int) ([]:List Fld) (0:Int)) le (Option.some (Go.Ab.Ch.mk (Go.Ab.Ln.mk (Go.Ab.Ln.b (Go.Ab.Ch.ln ch)) (Go.Ab.Ln.cr (Go.Ab.Ch.ln ch)) (Go.Ab.Ln.code (Go.Ab.Ch.ln ch))) (Go.Ab.Ch.pos ch) (Go.Ab.Ch.left ch) (Go.Ab.Ch.all ch) (Go.Ab.Ch.tails ch) (Go.Ab.Ch.code ch))) Bool.true (I.hid (α:=(List Go.Ab.Evt)) (HAppend.hAppend out ([(Go.Ab.Evt.mk (3:Int) (Hd.mk ([]:Str) ([]:Str) (0:Int) ([]:List Fld) (0:Int)) ([]:Str) (Go.Ab.Prt.mk ([]:Str) ([]:Str) ([]:Str) ([]:Str)) (0:Int))]:List Go.Ab.Evt))))))])) (by kernel_rfl) ?_
  simp only [zC]
  subst hI
  simp only [nrmA,nrmB,nrlB,reduceCtorEq,HO.abs.injEq,Gh.rq.injEq,Rq.mk.injEq]
  (repeat' (first|refine And.intro ?_ ?_|intro _))<;>first|omega|exact True.intro|exact False.elim ‹False›|skip
  all_goals first
    |omega
    |rfl
    |with_reducible assumption
    |(simp only [List.length_cons,List.length_nil];omega)
    |(unfold zA;simp only;omega)
    |(simp;done)
theorem zgZ (ln:Ln) (p:Int) (m tg:Str) (hm:Int) (hf:List Fld) (hl le:Int) (ch:Ch) (out:List Evt) (hneed:zA ⟨ln,p,⟨m,tg,hm,hf,hl⟩,le,some ch,false,out⟩):Spc Tryz.prog 46 [.v (.one (.ptr 0 0))] [.abs (.rq ⟨ln,p,⟨m,tg,hm,hf,hl⟩,le,some ch,false,out⟩)] (.ret (.tup [])) [.abs (.rq ((yP ⟨ln,p,⟨m,tg,hm,hf,hl⟩,le,some ch,false,out⟩)))]:=by
  unfold zA at hneed
  simp only at hneed
  refine spcG zu mixed Tryz.func46 (by kernel_rfl) { cfgQ with keep:=some [0]} [zT,zS,zZ,zY,yj,yh,yB,yA,xC,xB] (by kernel_rfl) ?_
  intro I X hI hX
  refine zh (.need (I.hid (α:=(Prop)) (zA (Go.Ab.Rq.mk ln p (Hd.mk m tg hm hf hl) le (Option.some ch) Bool.false out))) (.fin (.ret (.tup [])) [(.abs (.rq (Go.Ab.Rq.mk (Go.Ab.Ln.mk (Go.Ab.Ln.b ln) (Go.Ab.Ln.cr ln) (Go.Ab.Ln.code ln)) (0:Int) (Hd.mk ([]:Str) ([]:Str) (0:Int) ([]:List Fld) (0:Int)) le (Option.some (Go.Ab.Ch.mk (Go.Ab.Ln.mk (Go.Ab.Ln.b (Go.Ab.Ch.ln ch)) (Go.Ab.Ln.cr (Go.Ab.Ch.ln ch)) (Go.Ab.Ln.code (Go.Ab.Ch.ln ch))) (Go.Ab.Ch.pos ch) (Go.Ab.Ch.left ch) (Go.Ab.Ch.all ch) (Go.Ab.Ch.tails ch) (Go.Ab.Ch.code ch))) Bool.true (I.hid (α:=(List Go.Ab.Evt)) (HAppend.hAppend out ([(Go.Ab.Evt.mk (3:Int) (Hd.mk ([]:Str) ([]:Str) (0:Int) ([]:List Fld) (0:Int)) ([]:Str) (Go.Ab.Prt.mk ([]:Str) ([]:Str) ([]:Str) ([]:Str)) (0:Int))]:List Go.Ab.Evt))))))])) (by kernel_rfl) ?_
  simp only [zC]
  subst hI
  simp only [nrmA,nrmB,nrlB,reduceCtorEq,HO.abs.injEq,Gh.rq.injEq,Rq.mk.injEq]
  (repeat' (first|refine And.intro ?_ ?_|intro _))<;>first|omega|exact True.intro|exact False.elim ‹False›|skip
  all_goals first
    |omega
    |rfl
    |with_reducible assumption
    |(simp only [List.length_cons,List.length_nil];omega)
    |(unfold zA;simp only;omega)
    |(simp;done)
theorem zjn (q:Rq) (hneed:zA q):Spc Tryz.prog 46 [.v (.one (.ptr 0 0))] [.abs (.rq q)] (.ret (.tup [])) [.abs (.rq ((yP q)))]:=by
  obtain⟨ln,p,⟨m,tg,hm,hf,hl⟩,le,ck,own,out⟩:=q
  cases ck with
  | none=>cases own with
    |true=>exact zg0 ln p m tg hm hf hl le out hneed
    |false=>exact zg1 ln p m tg hm hf hl le out hneed
  | some ch=>cases own with
    |true=>exact zgY ln p m tg hm hf hl le ch out hneed
    |false=>exact zgZ ln p m tg hm hf hl le ch out hneed
def XD (I:Alg) (args:List D) (hp:List HO):Option CT:=match args,hp with
  |[.v (.one (.ptr 0 0))],[.abs (.rq q)]=>(fun(q:Rq)=>(some (.one ⟨I.hid (zA q),(.ret (.tup [])),[.abs (.rq (I.hid ((yP q))))]⟩):Option CT)) q
  |_,_=>none
theorem zbV:zI Tryz.prog 46 (XD alg):=by
  intro args hp r h
  unfold XD at h
  split at h
  · cases h;exact fun hn=>zjn _ hn
  · cases h
def rX:Know Tryz.prog:=⟨46,XD,zbV⟩
def rW:Know Tryz.prog:=⟨46,fun I=>zK I (XD I),zf zbV⟩
theorem zhe (b:Str) (cr:Bool) (code:Int):Spc Tryz.prog 31 [.v (.one (.ptr 0 0))] [.pack [.obj 82 [(.row 1),(.p (.bool cr)),(.p (.int .i64 code))],.row .byte 5 b]] (.ret (.v (.one (.p (.bool ((lnB ⟨b,cr,code⟩))))))) [.pack [.obj 82 [(.row 1),(.p (.bool cr)),(.p (.int .i64 code))],.row .byte 5 b]]:=by
  refine spcG zu mixed Tryz.func31 (by kernel_rfl) { zhy with keep:=some [0,2]} [] (by kernel_rfl) ?_
  intro I X hI hX
  refine zh (let y0:HO:=.pack [(.obj 82 [(.row 1),(.p (.bool cr)),(.p (.int .i64 code))]),(.row .byte 5 b)];.br (I.ilt 0 (I.len (α:=UInt8) b)) (.fin (.ret (.v (.one (.p (.bool Bool.true))))) [y0]) (.fin (.ret (.v (.one (.p (.bool cr))))) [y0])) (by kernel_rfl) ?_
  simp only [zC]
  subst hI
  unfold lnB
  simp only [nrmA,nrmB,nrlB,reduceCtorEq,HO.pack.injEq,HO.obj.injEq]
  (repeat' (first|refine And.intro ?_ ?_|intro _))<;>first|omega|exact True.intro|exact False.elim ‹False›|skip
  all_goals first|omega|rfl|(simp_all;done)|trace_state
def qi (I:Alg) (args:List D) (hp:List HO):Option CT:=match args,hp with
  |[.v (.one (.ptr 0 0))],[.pack [.obj 82 [(.row 1),(.p (.bool cr)),(.p (.int .i64 code))],.row .byte 5 b]]=>(fun(b:Str) (cr:Bool) (code:Int)=>(some (.one ⟨I.hid (True),(.ret (.v (.one (.p (.bool (I.hid ((lnB ⟨b,cr,code⟩)))))))),[.pack [.obj 82 [(.row 1),(.p (.bool cr)),(.p (.int .i64 code))],.row .byte 5 b]]⟩):Option CT)) b cr code
  |_,_=>none
theorem Uj:zI Tryz.prog 31 (qi alg):=by
  intro args hp r h
  unfold qi at h
  split at h
  · cases h;exact fun hn=>zhe _ _ _
  · cases h
def qh:Know Tryz.prog:=⟨31,qi,Uj⟩
def qg:Know Tryz.prog:=⟨31,fun I=>zK I (qi I),zf Uj⟩
theorem zeN (ln:Ln) (p:Int) (m tg:Str) (hm:Int) (hf:List Fld) (hl le:Int) (out:List Evt):Spc Tryz.prog 13 [.v (.one (.ptr 0 0))] [.abs (.rq ⟨ln,p,⟨m,tg,hm,hf,hl⟩,le,none,true,out⟩)] (.ret (.v (.one (.p (.bool ((decide (Rq.pos ⟨ln,p,⟨m,tg,hm,hf,hl⟩,le,none,true,out⟩=4)))))))) [.abs (.rq ⟨ln,p,⟨m,tg,hm,hf,hl⟩,le,none,true,out⟩)]:=by
  refine spcG zu mixed Tryz.func13 (by kernel_rfl) { cfgQ with keep:=some [0,2]} [] (by kernel_rfl) ?_
  intro I X hI hX
  refine zh (.fin (.ret (.v (.one (.p (.bool (I.ieq p 4)))))) [(.abs (.rq (Go.Ab.Rq.mk (Go.Ab.Ln.mk (Go.Ab.Ln.b ln) (Go.Ab.Ln.cr ln) (Go.Ab.Ln.code ln)) p (Hd.mk m tg hm hf hl) le (Option.none) Bool.true out)))]) (by kernel_rfl) ?_
  simp only [zC]
  subst hI
  simp only [nrmA,nrmB,nrlB,reduceCtorEq,HO.abs.injEq,Gh.rq.injEq,Rq.mk.injEq]
  (repeat' (first|refine And.intro ?_ ?_|intro _))<;>first|omega|exact True.intro|exact False.elim ‹False›|skip
  all_goals first
    |omega
    |rfl
    |with_reducible assumption
    |(simp only [List.length_cons,List.length_nil];omega)
    |(simp;done)
theorem zeO (ln:Ln) (p:Int) (m tg:Str) (hm:Int) (hf:List Fld) (hl le:Int) (out:List Evt):Spc Tryz.prog 13 [.v (.one (.ptr 0 0))] [.abs (.rq ⟨ln,p,⟨m,tg,hm,hf,hl⟩,le,none,false,out⟩)] (.ret (.v (.one (.p (.bool ((decide (Rq.pos ⟨ln,p,⟨m,tg,hm,hf,hl⟩,le,none,false,out⟩=4)))))))) [.abs (.rq ⟨ln,p,⟨m,tg,hm,hf,hl⟩,le,none,false,out⟩)]:=by
  refine spcG zu mixed Tryz.func13 (by kernel_rfl) { cfgQ with keep:=some [0,2]} [] (by kernel_rfl) ?_
  intro I X hI hX
  refine zh (.fin (.ret (.v (.one (.p (.bool (I.ieq p 4)))))) [(.abs (.rq (Go.Ab.Rq.mk (Go.Ab.Ln.mk (Go.Ab.Ln.b ln) (Go.Ab.Ln.cr ln) (Go.Ab.Ln.code ln)) p (Hd.mk m tg hm hf hl) le (Option.none) Bool.false out)))]) (by kernel_rfl) ?_
  simp only [zC]
  subst hI
  simp only [nrmA,nrmB,nrlB,reduceCtorEq,HO.abs.injEq,Gh.rq.injEq,Rq.mk.injEq]
  (repeat' (first|refine And.intro ?_ ?_|intro _))<;>first|omega|exact True.intro|exact False.elim ‹False›|skip
  all_goals first
    |omega
    |rfl
    |with_reducible assumption
    |(simp only [List.length_cons,List.length_nil];omega)
    |(simp;done)
theorem zeL (ln:Ln) (p:Int) (m tg:Str) (hm:Int) (hf:List Fld) (hl le:Int) (ch:Ch) (out:List Evt):Spc Tryz.prog 13 [.v (.one (.ptr 0 0))] [.abs (.rq ⟨ln,p,⟨m,tg,hm,hf,hl⟩,le,some ch,true,out⟩)] (.ret (.v (.one (.p (.bool ((decide (Rq.pos ⟨ln,p,⟨m,tg,hm,hf,hl⟩,le,some ch,true,out⟩=4)))))))) [.abs (.rq ⟨ln,p,⟨m,tg,hm,hf,hl⟩,le,some ch,true,out⟩)]:=by
  refine spcG zu mixed Tryz.func13 (by kernel_rfl) { cfgQ with keep:=some [0,2]} [] (by kernel_rfl) ?_
  intro I X hI hX
  refine zh (.fin (.ret (.v (.one (.p (.bool (I.ieq p 4)))))) [(.abs (.rq (Go.Ab.Rq.mk (Go.Ab.Ln.mk (Go.Ab.Ln.b ln) (Go.Ab.Ln.cr ln) (Go.Ab.Ln.code ln)) p (Hd.mk m tg hm hf hl) le (Option.some (Go.Ab.Ch.mk (Go.Ab.Ln.mk (Go.Ab.Ln.b (Go.Ab.Ch.ln ch)) (Go.Ab.Ln.cr (Go.Ab.Ch.ln ch)) (Go.Ab.Ln.code (Go.Ab.Ch.ln ch))) (Go.Ab.Ch.pos ch) (Go.Ab.Ch.left ch) (Go.Ab.Ch.all ch) (Go.Ab.Ch.tails ch) (Go.Ab.Ch.code ch))) Bool.true out)))]) (by kernel_rfl) ?_
  simp only [zC]
  subst hI
  simp only [nrmA,nrmB,nrlB,reduceCtorEq,HO.abs.injEq,Gh.rq.injEq,Rq.mk.injEq]
  (repeat' (first|refine And.intro ?_ ?_|intro _))<;>first|omega|exact True.intro|exact False.elim ‹False›|skip
  all_goals first
    |omega
    |rfl
    |with_reducible assumption
    |(simp only [List.length_cons,List.length_nil];omega)
    |(simp;done)
theorem zeM (ln:Ln) (p:Int) (m tg:Str) (hm:Int) (hf:List Fld) (hl le:Int) (ch:Ch) (out:List Evt):Spc Tryz.prog 13 [.v (.one (.ptr 0 0))] [.abs (.rq ⟨ln,p,⟨m,tg,hm,hf,hl⟩,le,some ch,false,out⟩)] (.ret (.v (.one (.p (.bool ((decide (Rq.pos ⟨ln,p,⟨m,tg,hm,hf,hl⟩,le,some ch,false,out⟩=4)))))))) [.abs (.rq ⟨ln,p,⟨m,tg,hm,hf,hl⟩,le,some ch,false,out⟩)]:=by
  refine spcG zu mixed Tryz.func13 (by kernel_rfl) { cfgQ with keep:=some [0,2]} [] (by kernel_rfl) ?_
  intro I X hI hX
  refine zh (.fin (.ret (.v (.one (.p (.bool (I.ieq p 4)))))) [(.abs (.rq (Go.Ab.Rq.mk (Go.Ab.Ln.mk (Go.Ab.Ln.b ln) (Go.Ab.Ln.cr ln) (Go.Ab.Ln.code ln)) p (Hd.mk m tg hm hf hl) le (Option.some (Go.Ab.Ch.mk (Go.Ab.Ln.mk (Go.Ab.Ln.b (Go.Ab.Ch.ln ch)) (Go.Ab.Ln.cr (Go.Ab.Ch.ln ch)) (Go.Ab.Ln.code (Go.Ab.Ch.ln ch))) (Go.Ab.Ch.pos ch) (Go.Ab.Ch.left ch) (Go.Ab.Ch.all ch) (Go.Ab.Ch.tails ch) (Go.Ab.Ch.code ch))) Bool.false out)))]) (by kernel_rfl) ?_
  simp only [zC]
  subst hI
  simp only [nrmA,nrmB,nrlB,reduceCtorEq,HO.abs.injEq,Gh.rq.injEq,Rq.mk.injEq]
  (repeat' (first|refine And.intro ?_ ?_|intro _))<;>first|omega|exact True.intro|exact False.elim ‹False›|skip
  all_goals first
    |omega
    |rfl
    |with_reducible assumption
    |(simp only [List.length_cons,List.length_nil];omega)
    |(simp;done)
theorem zil (q:Rq):Spc Tryz.prog 13 [.v (.one (.ptr 0 0))] [.abs (.rq q)] (.ret (.v (.one (.p (.bool ((decide (Rq.pos q=4)))))))) [.abs (.rq ((q)))]:=by
  obtain⟨ln,p,⟨m,tg,hm,hf,hl⟩,le,ck,own,out⟩:=q
  cases ck with
  | none=>cases own with
    |true=>exact zeN ln p m tg hm hf hl le out
    |false=>exact zeO ln p m tg hm hf hl le out
  | some ch=>cases own with
    |true=>exact zeL ln p m tg hm hf hl le ch out
    |false=>exact zeM ln p m tg hm hf hl le ch out
def Zy (I:Alg) (args:List D) (hp:List HO):Option CT:=match args,hp with
  |[.v (.one (.ptr 0 0))],[.abs (.rq q)]=>(fun(q:Rq)=>(some (.one ⟨I.hid (True),(.ret (.v (.one (.p (.bool (I.hid ((decide (Rq.pos q=4))))))))),[.abs (.rq (I.hid ((q))))]⟩):Option CT)) q
  |_,_=>none
theorem Qb:zI Tryz.prog 13 (Zy alg):=by
  intro args hp r h
  unfold Zy at h
  split at h
  · cases h;exact fun hn=>zil _
  · cases h
def Wv:Know Tryz.prog:=⟨13,Zy,Qb⟩
def Wu:Know Tryz.prog:=⟨13,fun I=>zK I (Zy I),zf Qb⟩
theorem zeV (ln:Ln) (p:Int) (m tg:Str) (hm:Int) (hf:List Fld) (hl le:Int) (out:List Evt):Spc Tryz.prog 12 [.v (.one (.ptr 0 0))] [.abs (.rq ⟨ln,p,⟨m,tg,hm,hf,hl⟩,le,none,true,out⟩)] (.ret (.v (.one (.p (.bool ((xH ⟨ln,p,⟨m,tg,hm,hf,hl⟩,le,none,true,out⟩))))))) [.abs (.rq ⟨ln,p,⟨m,tg,hm,hf,hl⟩,le,none,true,out⟩)]:=by
  refine spcG zu mixed Tryz.func12 (by kernel_rfl) { cfgQ with keep:=some [0,2]} [qh,qg] (by kernel_rfl) ?_
  intro I X hI hX
  refine zh (.br (I.bnot (I.ieq p 4)) (.br (I.bnot (I.ieq p 0)) (.fin (.ret (.v (.one (.p (.bool Bool.true))))) [(.abs (.rq (Go.Ab.Rq.mk (Go.Ab.Ln.mk (Go.Ab.Ln.b ln) (Go.Ab.Ln.cr ln) (Go.Ab.Ln.code ln)) p (Hd.mk m tg hm hf hl) le (Option.none) Bool.true out)))]) (.need (I.hid (α:=(Prop)) True) (.fin (.ret (.v (.one (.p (.bool (I.hid (α:=Bool) (lnB (Go.Ab.Ln.mk (Go.Ab.Ln.b ln) (Go.Ab.Ln.cr ln) (Go.Ab.Ln.code ln))))))))) [(.abs (.rq (Go.Ab.Rq.mk (Go.Ab.Ln.mk (Go.Ab.Ln.b ln) (Go.Ab.Ln.cr ln) (Go.Ab.Ln.code ln)) p (Hd.mk m tg hm hf hl) le (Option.none) Bool.true out)))]))) (.fin (.ret (.v (.one (.p (.bool Bool.false))))) [(.abs (.rq (Go.Ab.Rq.mk (Go.Ab.Ln.mk (Go.Ab.Ln.b ln) (Go.Ab.Ln.cr ln) (Go.Ab.Ln.code ln)) p (Hd.mk m tg hm hf hl) le (Option.none) Bool.true out)))])) (by kernel_rfl) ?_
  simp only [zC]
  subst hI
  simp only [nrmA,nrmB,nrlB,reduceCtorEq,HO.abs.injEq,Gh.rq.injEq,Rq.mk.injEq]
  (repeat' (first|refine And.intro ?_ ?_|intro _))<;>first|omega|exact True.intro|exact False.elim ‹False›|skip
  all_goals first
    |omega
    |rfl
    |with_reducible assumption
    |(simp only [List.length_cons,List.length_nil];omega)
    |(simp_all [xH];done)
    |(simp;done)
theorem zeW (ln:Ln) (p:Int) (m tg:Str) (hm:Int) (hf:List Fld) (hl le:Int) (out:List Evt):Spc Tryz.prog 12 [.v (.one (.ptr 0 0))] [.abs (.rq ⟨ln,p,⟨m,tg,hm,hf,hl⟩,le,none,false,out⟩)] (.ret (.v (.one (.p (.bool ((xH ⟨ln,p,⟨m,tg,hm,hf,hl⟩,le,none,false,out⟩))))))) [.abs (.rq ⟨ln,p,⟨m,tg,hm,hf,hl⟩,le,none,false,out⟩)]:=by
  refine spcG zu mixed Tryz.func12 (by kernel_rfl) { cfgQ with keep:=some [0,2]} [qh,qg] (by kernel_rfl) ?_
  intro I X hI hX
  refine zh (.br (I.bnot (I.ieq p 4)) (.br (I.bnot (I.ieq p 0)) (.fin (.ret (.v (.one (.p (.bool Bool.true))))) [(.abs (.rq (Go.Ab.Rq.mk (Go.Ab.Ln.mk (Go.Ab.Ln.b ln) (Go.Ab.Ln.cr ln) (Go.Ab.Ln.code ln)) p (Hd.mk m tg hm hf hl) le (Option.none) Bool.false out)))]) (.need (I.hid (α:=(Prop)) True) (.fin (.ret (.v (.one (.p (.bool (I.hid (α:=Bool) (lnB (Go.Ab.Ln.mk (Go.Ab.Ln.b ln) (Go.Ab.Ln.cr ln) (Go.Ab.Ln.code ln))))))))) [(.abs (.rq (Go.Ab.Rq.mk (Go.Ab.Ln.mk (Go.Ab.Ln.b ln) (Go.Ab.Ln.cr ln) (Go.Ab.Ln.code ln)) p (Hd.mk m tg hm hf hl) le (Option.none) Bool.false out)))]))) (.fin (.ret (.v (.one (.p (.bool Bool.false))))) [(.abs (.rq (Go.Ab.Rq.mk (Go.Ab.Ln.mk (Go.Ab.Ln.b ln) (Go.Ab.Ln.cr ln) (Go.Ab.Ln.code ln)) p (Hd.mk m tg hm hf hl) le (Option.none) Bool.false out)))])) (by kernel_rfl) ?_
  simp only [zC]
  subst hI
  simp only [nrmA,nrmB,nrlB,reduceCtorEq,HO.abs.injEq,Gh.rq.injEq,Rq.mk.injEq]
  (repeat' (first|refine And.intro ?_ ?_|intro _))<;>first|omega|exact True.intro|exact False.elim ‹False›|skip
  all_goals first
    |omega
    |rfl
    |with_reducible assumption
    |(simp only [List.length_cons,List.length_nil];omega)
    |(simp_all [xH];done)
    |(simp;done)
theorem zeT (ln:Ln) (p:Int) (m tg:Str) (hm:Int) (hf:List Fld) (hl le:Int) (ch:Ch) (out:List Evt):Spc Tryz.prog 12 [.v (.one (.ptr 0 0))] [.abs (.rq ⟨ln,p,⟨m,tg,hm,hf,hl⟩,le,some ch,true,out⟩)] (.ret (.v (.one (.p (.bool ((xH ⟨ln,p,⟨m,tg,hm,hf,hl⟩,le,some ch,true,out⟩))))))) [.abs (.rq ⟨ln,p,⟨m,tg,hm,hf,hl⟩,le,some ch,true,out⟩)]:=by
  refine spcG zu mixed Tryz.func12 (by kernel_rfl) { cfgQ with keep:=some [0,2]} [qh,qg] (by kernel_rfl) ?_
  intro I X hI hX
  refine zh (.br (I.bnot (I.ieq p 4)) (.br (I.bnot (I.ieq p 0)) (.fin (.ret (.v (.one (.p (.bool Bool.true))))) [(.abs (.rq (Go.Ab.Rq.mk (Go.Ab.Ln.mk (Go.Ab.Ln.b ln) (Go.Ab.Ln.cr ln) (Go.Ab.Ln.code ln)) p (Hd.mk m tg hm hf hl) le (Option.some (Go.Ab.Ch.mk (Go.Ab.Ln.mk (Go.Ab.Ln.b (Go.Ab.Ch.ln ch)) (Go.Ab.Ln.cr (Go.Ab.Ch.ln ch)) (Go.Ab.Ln.code (Go.Ab.Ch.ln ch))) (Go.Ab.Ch.pos ch) (Go.Ab.Ch.left ch) (Go.Ab.Ch.all ch) (Go.Ab.Ch.tails ch) (Go.Ab.Ch.code ch))) Bool.true out)))]) (.need (I.hid (α:=(Prop)) True) (.fin (.ret (.v (.one (.p (.bool (I.hid (α:=Bool) (lnB (Go.Ab.Ln.mk (Go.Ab.Ln.b ln) (Go.Ab.Ln.cr ln) (Go.Ab.Ln.code ln))))))))) [(.abs (.rq (Go.Ab.Rq.mk (Go.Ab.Ln.mk (Go.Ab.Ln.b ln) (Go.Ab.Ln.cr ln) (Go.Ab.Ln.code ln)) p (Hd.mk m tg hm hf hl) le (Option.some (Go.Ab.Ch.mk (Go.Ab.Ln.mk (Go.Ab.Ln.b (Go.Ab.Ch.ln ch)) (Go.Ab.Ln.cr (Go.Ab.Ch.ln ch)) (Go.Ab.Ln.code (Go.Ab.Ch.ln ch))) (Go.Ab.Ch.pos ch) (Go.Ab.Ch.left ch) (Go.Ab.Ch.all ch) (Go.Ab.Ch.tails ch) (Go.Ab.Ch.code ch))) Bool.true out)))]))) (.fin (.ret (.v (.one (.p (.bool Bool.false))))) [(.abs (.rq (Go.Ab.Rq.mk (Go.Ab.Ln.mk (Go.Ab.Ln.b ln) (Go.Ab.Ln.cr ln) (Go.Ab.Ln.code ln)) p (Hd.mk m tg hm hf hl) le (Option.some (Go.Ab.Ch.mk (Go.Ab.Ln.mk (Go.Ab.Ln.b (Go.Ab.Ch.ln ch)) (Go.Ab.Ln.cr (Go.Ab.Ch.ln ch)) (Go.Ab.Ln.code (Go.Ab.Ch.ln ch))) (Go.Ab.Ch.pos ch) (Go.Ab.Ch.left ch) (Go.Ab.Ch.all ch) (Go.Ab.Ch.tails ch) (Go.Ab.Ch.code ch))) Bool.true out)))])) (by kernel_rfl) ?_
  simp only [zC]
  subst hI
  simp only [nrmA,nrmB,nrlB,reduceCtorEq,HO.abs.injEq,Gh.rq.injEq,Rq.mk.injEq]
  (repeat' (first|refine And.intro ?_ ?_|intro _))<;>first|omega|exact True.intro|exact False.elim ‹False›|skip
  all_goals first
    |omega
    |rfl
    |with_reducible assumption
    |(simp only [List.length_cons,List.length_nil];omega)
    |(simp_all [xH];done)
    |(simp;done)
theorem zeU (ln:Ln) (p:Int) (m tg:Str) (hm:Int) (hf:List Fld) (hl le:Int) (ch:Ch) (out:List Evt):Spc Tryz.prog 12 [.v (.one (.ptr 0 0))] [.abs (.rq ⟨ln,p,⟨m,tg,hm,hf,hl⟩,le,some ch,false,out⟩)] (.ret (.v (.one (.p (.bool ((xH ⟨ln,p,⟨m,tg,hm,hf,hl⟩,le,some ch,false,out⟩))))))) [.abs (.rq ⟨ln,p,⟨m,tg,hm,hf,hl⟩,le,some ch,false,out⟩)]:=by
  refine spcG zu mixed Tryz.func12 (by kernel_rfl) { cfgQ with keep:=some [0,2]} [qh,qg] (by kernel_rfl) ?_
  intro I X hI hX
  refine zh (.br (I.bnot (I.ieq p 4)) (.br (I.bnot (I.ieq p 0)) (.fin (.ret (.v (.one (.p (.bool Bool.true))))) [(.abs (.rq (Go.Ab.Rq.mk (Go.Ab.Ln.mk (Go.Ab.Ln.b ln) (Go.Ab.Ln.cr ln) (Go.Ab.Ln.code ln)) p (Hd.mk m tg hm hf hl) le (Option.some (Go.Ab.Ch.mk (Go.Ab.Ln.mk (Go.Ab.Ln.b (Go.Ab.Ch.ln ch)) (Go.Ab.Ln.cr (Go.Ab.Ch.ln ch)) (Go.Ab.Ln.code (Go.Ab.Ch.ln ch))) (Go.Ab.Ch.pos ch) (Go.Ab.Ch.left ch) (Go.Ab.Ch.all ch) (Go.Ab.Ch.tails ch) (Go.Ab.Ch.code ch))) Bool.false out)))]) (.need (I.hid (α:=(Prop)) True) (.fin (.ret (.v (.one (.p (.bool (I.hid (α:=Bool) (lnB (Go.Ab.Ln.mk (Go.Ab.Ln.b ln) (Go.Ab.Ln.cr ln) (Go.Ab.Ln.code ln))))))))) [(.abs (.rq (Go.Ab.Rq.mk (Go.Ab.Ln.mk (Go.Ab.Ln.b ln) (Go.Ab.Ln.cr ln) (Go.Ab.Ln.code ln)) p (Hd.mk m tg hm hf hl) le (Option.some (Go.Ab.Ch.mk (Go.Ab.Ln.mk (Go.Ab.Ln.b (Go.Ab.Ch.ln ch)) (Go.Ab.Ln.cr (Go.Ab.Ch.ln ch)) (Go.Ab.Ln.code (Go.Ab.Ch.ln ch))) (Go.Ab.Ch.pos ch) (Go.Ab.Ch.left ch) (Go.Ab.Ch.all ch) (Go.Ab.Ch.tails ch) (Go.Ab.Ch.code ch))) Bool.false out)))]))) (.fin (.ret (.v (.one (.p (.bool Bool.false))))) [(.abs (.rq (Go.Ab.Rq.mk (Go.Ab.Ln.mk (Go.Ab.Ln.b ln) (Go.Ab.Ln.cr ln) (Go.Ab.Ln.code ln)) p (Hd.mk m tg hm hf hl) le (Option.some (Go.Ab.Ch.mk (Go.Ab.Ln.mk (Go.Ab.Ln.b (Go.Ab.Ch.ln ch)) (Go.Ab.Ln.cr (Go.Ab.Ch.ln ch)) (Go.Ab.Ln.code (Go.Ab.Ch.ln ch))) (Go.Ab.Ch.pos ch) (Go.Ab.Ch.left ch) (Go.Ab.Ch.all ch) (Go.Ab.Ch.tails ch) (Go.Ab.Ch.code ch))) Bool.false out)))])) (by kernel_rfl) ?_
  simp only [zC]
  subst hI
  simp only [nrmA,nrmB,nrlB,reduceCtorEq,HO.abs.injEq,Gh.rq.injEq,Rq.mk.injEq]
  (repeat' (first|refine And.intro ?_ ?_|intro _))<;>first|omega|exact True.intro|exact False.elim ‹False›|skip
  all_goals first
    |omega
    |rfl
    |with_reducible assumption
    |(simp only [List.length_cons,List.length_nil];omega)
    |(simp_all [xH];done)
    |(simp;done)
theorem zin (q:Rq):Spc Tryz.prog 12 [.v (.one (.ptr 0 0))] [.abs (.rq q)] (.ret (.v (.one (.p (.bool ((xH q))))))) [.abs (.rq ((q)))]:=by
  obtain⟨ln,p,⟨m,tg,hm,hf,hl⟩,le,ck,own,out⟩:=q
  cases ck with
  | none=>cases own with
    |true=>exact zeV ln p m tg hm hf hl le out
    |false=>exact zeW ln p m tg hm hf hl le out
  | some ch=>cases own with
    |true=>exact zeT ln p m tg hm hf hl le ch out
    |false=>exact zeU ln p m tg hm hf hl le ch out
def ZC (I:Alg) (args:List D) (hp:List HO):Option CT:=match args,hp with
  |[.v (.one (.ptr 0 0))],[.abs (.rq q)]=>(fun(q:Rq)=>(some (.one ⟨I.hid (True),(.ret (.v (.one (.p (.bool (I.hid ((xH q)))))))),[.abs (.rq (I.hid ((q))))]⟩):Option CT)) q
  |_,_=>none
theorem Qd:zI Tryz.prog 12 (ZC alg):=by
  intro args hp r h
  unfold ZC at h
  split at h
  · cases h;exact fun hn=>zin _
  · cases h
def ZB:Know Tryz.prog:=⟨12,ZC,Qd⟩
def ZA:Know Tryz.prog:=⟨12,fun I=>zK I (ZC I),zf Qd⟩
end Go.Proofs.YtmibhbdfigpkmaaGreatDoor
namespace Go.Ab
open Go Go.Sep
variable [Facts]
theorem Spc.zjx {Pr:Program} {f:Nat} {args:List D} {hp:List HO} {u:U} {E:Nat} {l:List u.den} (hl:l.length≤maxLen) (hf: ∃ fn,Pr.funcs[f]? =some fn∧(fn.name == "runtime.NumGoroutine")=false∧fn.body.isNone=false)
    (h: ∀ (S:Frz) (bs:List Value) (w:World) (vs:List Value),Facts.p w→MDs S bs args vs→∃ cs:Array Value,cs.size=l.length * u.size∧(∀ (i:Nat) (x:u.den) (j:Nat) (p:P) (v:Value),l[i]? =some x→(enc alg u x)[j]? =some p→cs.toList[i * u.size+j]? =some v→MP S p v)∧Calls Pr f vs.toArray w fun e w'=>e=.returned (.slice (some ⟨w.heap.size,0,none⟩) l.length l.length)∧w'=w.alloc (.cells cs E)):Spc Pr f args hp (.ret (.v (.one (.row hp.length)))) (hp++[.row u E l]):=by
  refine⟨hf,fun S K fr w vs hH hM hA=> ?_⟩
  obtain⟨cs,hcs,hx,hc⟩:=h S _ w vs (At.frz hA).facts hM
  refine hc.mono fun e w' he=> ?_
  obtain⟨rfl,rfl⟩:=he
  have he:Ext (K.map CO.base) ((K++[CO.row E u.size (some ⟨w.heap.size,0,none⟩) l.length l.length cs.toList]).map CO.base):=by rw [List.map_append];exact Ext.append _ _
  refine⟨S,K++[CO.row E u.size (some ⟨w.heap.size,0,none⟩) l.length l.length cs.toList],Frz.le.refl S,he,(hH.mono (Frz.le.refl S) he).push (.row (by rw [Array.length_toList];exact hcs) hx),?_,?_⟩
  · have h1:=hA.XZ E u.size l.length cs (0,0) hcs hl (wO _)
    exact At.more h1
  · refine⟨?_,some ⟨w.heap.size,0,none⟩,l.length,l.length,rfl⟩
    rw [hH.1];exact yO _ _
end Go.Ab
namespace Go.Proofs.YtmibhbdfigpkmaaGreatDoor
open Go Go.Sep Go.Ab
set_option maxRecDepth 100000
theorem index_one: ∀ (s:Str) (c:UInt8),c ∉ s→Lib.index s [c]= -1
  |[],c,_=>rfl
  | b::l,c,h=>by
    have h1: ¬ b=c:=fun e=>h (by rw [e];exact List.mem_cons_self)
    have h2:c ∉ l:=fun e=>h (List.mem_cons_of_mem _ e)
    have h0:(c == b)=false:=by simpa using fun e:c=b=>h1 e.symm
    have h3:([c]:Str).isPrefixOf (b::l)=false:=by simp [List.isPrefixOf,h0]
    unfold Lib.index
    rw [h3,index_one l c h2];rfl
theorem zct: ∀ (p r:Str) (c:UInt8),c ∉ p→Lib.index (p++c::r) [c]=p.length
  |[],r,c,_=>by simp [Lib.index,List.isPrefixOf]
  | b::l,r,c,h=>by
    have h1: ¬ b=c:=fun e=>h (by rw [e];exact List.mem_cons_self)
    have h2:c ∉ l:=fun e=>h (List.mem_cons_of_mem _ e)
    have h0:(c == b)=false:=by simpa using fun e:c=b=>h1 e.symm
    have h3:([c]:Str).isPrefixOf (b::(l++c::r))=false:=by simp [List.isPrefixOf,h0]
    rw [List.cons_append]
    unfold Lib.index
    rw [h3,zct l r c h2]
    have: ¬ ((l.length:Int) == -1)=true:=fun e=>by have:=beq_iff_eq.1 e;omega
    rw [if_neg (by simp),if_neg this]
    simp
theorem X8: ∀ (s:Str),(32:UInt8) ∉ s→zL s=[s]
  |[],_=>rfl
  | b::l,h=>by
    have h1: ¬ b=32:=fun e=>h (by rw [e];exact List.mem_cons_self)
    have h2:(32:UInt8) ∉ l:=fun e=>h (List.mem_cons_of_mem _ e)
    rw [zL,if_neg h1,X8 l h2]
theorem VS: ∀ (p r:Str),(32:UInt8) ∉ p→zL (p++32::r)=p::zL r
  |[],r,_=>by simp [zL]
  | b::l,r,h=>by
    have h1: ¬ b=32:=fun e=>h (by rw [e];exact List.mem_cons_self)
    have h2:(32:UInt8) ∉ l:=fun e=>h (List.mem_cons_of_mem _ e)
    rw [List.cons_append,zL,if_neg h1,VS l r h2]
theorem zhV: ∀ (s:Str) (c:UInt8),c ∈ s→∃ p r,s=p++c::r∧c ∉ p
  | b ::l,c,h=>by
    by_cases e:b=c
    · exact⟨[],l,by rw [e];rfl,by simp⟩
    · have h2:c ∈ l:=by
        rcases List.mem_cons.1 h with h|h
        · exact absurd h.symm e
        · exact h
      obtain⟨p,r,rfl,h3⟩:=zhV l c h2
      refine⟨b::p,r,rfl,fun h4=> ?_⟩
      rcases List.mem_cons.1 h4 with h4|h4
      · exact e h4.symm
      · exact h3 h4
theorem Rw: ∀ (n:Nat) (s:Str),s.length≤n→∀ k,s.count 32≤k→Lib.splitK [32] 0 k s=zL s
  | 0,s,hs,k,_=>by
    have:s=[]:=List.length_eq_zero_iff.1 (by omega)
    subst this
    cases k<;>rfl
  | n + 1,s,hs,k,hk=>by
    by_cases hm:(32:UInt8) ∈ s
    · obtain⟨p,r,rfl,hp⟩:=zhV s 32 hm
      have hc:(p++32::r).count 32=r.count 32+1:=by
        rw [List.count_append,List.count_eq_zero.2 hp,List.count_cons_self];omega
      rw [hc] at hk
      cases k with
      |zero=>omega
      | succ k=>
        rw [VS p r hp]
        unfold Lib.splitK
        rw [zct p r 32 hp]
        have: ¬ ((p.length:Int) == -1)=true:=fun e=>by have:=beq_iff_eq.1 e;omega
        rw [if_neg this]
        simp only [Int.toNat_natCast,Nat.add_zero,List.length_cons,List.length_nil,Nat.zero_add]
        rw [List.take_left,show p.length+1=(p++[(32:UInt8)]).length by simp,show p++32::r=(p++[32])++r by simp,List.drop_left]
        congr 1
        refine Rw n r ?_ k (by omega)
        simp only [List.length_append,List.length_cons] at hs
        omega
    · rw [X8 s hm]
      cases k with
      |zero=>rfl
      | succ k=>
        unfold Lib.splitK
        rw [index_one s 32 hm];rfl
theorem count_one (s:Str):Lib.count s [32]=s.count 32:=Lib.count_one 32 s
theorem X9: ∀ (s:Str),(zL s).length=s.count 32+1
  |[]=>rfl
  | c ::r=>by
    have ih:=X9 r
    rw [zL]
    split
    · rename_i h;subst h;rw [List.length_cons,ih,List.count_cons_self]
    · rename_i h
      rw [List.count_cons_of_ne (by simpa using h)]
      cases hq:zL r with
      |nil=>exact absurd hq (VR r)
      |cons w ws=>rw [hq] at ih;simpa using ih
theorem zeb {S:Frz} {l:List Str} (hl: ∀ x ∈ l,x.length≤maxLen) {vs:List Value} (hv:vs=l.map fun x=>Value.string (Sep.S x)): ∀ (i:Nat) (x:Str) (j:Nat) (p:P) (v:Value),l[i]? =some x→(enc alg .str x)[j]? =some p→vs[i * U.str.size+j]? =some v→MP S p v:=by
  intro i x j p v hi hj hv2
  cases j with
  | zero=>
    simp only [enc,List.getElem?_cons_zero,Option.some.injEq] at hj
    subst hj
    rw [hv,show i * U.str.size+0=i by simp [U.size],List.getElem?_map,hi] at hv2
    cases hv2
    exact .str _ (hl x (List.mem_of_getElem? hi))
  |succ j=>simp [enc] at hj
theorem wU: ∀ (s:Str),∀ x ∈ zL s,x.length≤s.length
  |[],x,h=>by simp [zL] at h;subst h;simp
  | c ::r,x,h=>by
    have ih:=wU r
    rw [zL] at h
    split at h
    · rcases List.mem_cons.1 h with rfl|h
      · simp
      · have:=ih x h;simp;omega
    · cases hq:zL r with
      |nil=>exact absurd hq (VR r)
      | cons w ws=>
        rw [hq] at h ih
        rcases List.mem_cons.1 h with rfl|h
        · have:=ih w List.mem_cons_self;simp;omega
        · have:=ih x (List.mem_cons_of_mem _ h);simp;omega
theorem zje (s:Str) (hneed:s.length≤1000000):Spc Tryz.prog 86 [.v (.one (.p (.str s))),.v (.one (.p (.str ([32]))))] [] (.ret (.v (.one (.row 0)))) [.row .str 9 ((zL s))]:=by
  have hlen:=X9 s
  have hcl:s.count 32≤s.length:=List.count_le_length
  refine Spc.zjx (hp:=[]) (u:=.str) (by rw [hlen];unfold maxLen;omega) ⟨_,Tryz.func86,by kernel_rfl,by kernel_rfl⟩ fun S bs w vs hW hM=> ?_
  obtain⟨v,r,rfl⟩: ∃ v r,vs=v::r:=by cases vs with|nil=>exact hM.elim|cons v r=>exact⟨v,r,rfl⟩
  obtain⟨h1,hM⟩:=hM
  obtain⟨v2,r2,rfl⟩: ∃ v r2,r=v::r2:=by cases r with|nil=>exact hM.elim|cons v r=>exact⟨v,r,rfl⟩
  obtain⟨h2,hM⟩:=hM
  obtain rfl:r2=[]:=by cases r2 with|nil=>rfl|cons v r=>exact hM.elim
  obtain⟨mx,hmx⟩:=hW.2
  cases h1 with
  | str _ hl1=>
    cases h2 with
    | str _ hl2=>
      have hc:=Tryz.strings_Split (Sep.S s) (Sep.S [32]) mx w (by show s.length<_;omega) hmx (by decide)
      have hk:Lib.countB (Sep.S s) (Sep.S [32])=s.count 32:=count_one s
      have hd:(Lib.splitB (Sep.S [32]) 0 (Lib.countB (Sep.S s) (Sep.S [32])) (Sep.S s)).map (fun b=>b.data.toList)=zL s:=by
        rw [Lib.splitB_data,hk]
        exact Rw s.length s (Nat.le_refl _) _ (Nat.le_refl _)
      have hv:(Lib.splitB (Sep.S [32]) 0 (Lib.countB (Sep.S s) (Sep.S [32])) (Sep.S s)).map Value.string=(zL s).map fun x=>Value.string (Sep.S x):=by
        rw [← hd,List.map_map]
        exact List.map_congr_left fun b _=>by simp [Sep.S]
      refine⟨((Lib.splitB (Sep.S [32]) 0 (Lib.countB (Sep.S s) (Sep.S [32])) (Sep.S s)).map Value.string).toArray,?_,?_,hc.mono fun e w' h=> ?_⟩
      · rw [hv];simp [U.size]
      · exact zeb (fun x hx=>by have:=wU s x hx;unfold maxLen;omega) (by rw [hv])
      · obtain⟨he,hw⟩:=h
        rw [hk] at he
        rw [hlen]
        exact⟨he,hw⟩
def Xq (I:Alg) (args:List D) (hp:List HO):Option CT:=match args,hp with
  |[.v (.one (.p (.str s))),.v (.one (.p (.str ([32]))))],[]=>(fun(s:Str)=>(some (.one ⟨I.hid (s.length≤1000000),(.ret (.v (.one (.row 0)))),[.row .str 9 (I.hid ((zL s)))]⟩):Option CT)) s
  |_,_=>none
theorem zbC:zI Tryz.prog 86 (Xq alg):=by
  intro args hp r h
  unfold Xq at h
  split at h
  · cases h;exact fun hn=>zje _ hn
  · cases h
def zbB:Know Tryz.prog:=⟨86,Xq,zbC⟩
def zbA:Know Tryz.prog:=⟨86,fun I=>zK I (Xq I),zf zbC⟩
end Go.Proofs.YtmibhbdfigpkmaaGreatDoor
namespace Go.Proofs.YtmibhbdfigpkmaaGreatDoor
open Go Go.Sep Go.Ab
set_option maxRecDepth 100000
theorem zdH (s p:Str):Spc Tryz.prog 33 [.v (.one (.p (.str s))),.v (.one (.p (.str p)))] [] (.ret (.v (.one (.p (.bool (Lib.hasPrefix s p)))))) []:=by
  refine Spc.of_below ⟨_,Tryz.func33,by kernel_rfl,by kernel_rfl⟩ fun S bs w vs _ hM=> ?_
  obtain⟨v,r,rfl⟩: ∃ v r,vs=v::r:=by cases vs with|nil=>exact hM.elim|cons v r=>exact⟨v,r,rfl⟩
  obtain⟨h1,hM⟩:=hM
  obtain⟨v2,r2,rfl⟩: ∃ v r2,r=v::r2:=by cases r with|nil=>exact hM.elim|cons v r=>exact⟨v,r,rfl⟩
  obtain⟨h2,hM⟩:=hM
  obtain rfl:r2=[]:=by cases r2 with|nil=>rfl|cons v r=>exact hM.elim
  cases h1 with
  | str _ hl1=>
    cases h2 with
    | str _ hl2=>
      refine⟨.bool (Lib.hasPrefix s p),.bool _,(Tryz.strings_HasPrefix (Sep.S s) (Sep.S p) w).mono fun e w' h=> ?_⟩
      obtain⟨he,rfl⟩:=h
      exact⟨he,Go.RowKit.Below.refl _ _⟩
def vU (I:Alg) (args:List D) (hp:List HO):Option CT:=match args,hp with
  |[.v (.one (.p (.str s))),.v (.one (.p (.str p)))],[]=>(fun(s p:Str)=>(some (.one ⟨I.hid (True),(.ret (.v (.one (.p (.bool (I.hid (Lib.hasPrefix s p))))))),[]⟩):Option CT)) s p
  |_,_=>none
theorem Xb:zI Tryz.prog 33 (vU alg):=by
  intro args hp r h
  unfold vU at h
  split at h
  · cases h;exact fun hn=>zdH _ _
  · cases h
def xQ:Know Tryz.prog:=⟨33,vU,Xb⟩
def xP:Know Tryz.prog:=⟨33,fun I=>zK I (vU I),zf Xb⟩
theorem zdN (s:Str) (c:UInt8):Spc Tryz.prog 87 [.v (.one (.p (.str s))),.v (.one (.p (.str ([c]))))] [] (.ret (.v (.one (.p (.bool (decide (0≤Lib.indexByte s c))))))) []:=by
  refine Spc.of_below ⟨_,Tryz.func87,by kernel_rfl,by kernel_rfl⟩ fun S bs w vs _ hM=> ?_
  obtain⟨v,r,rfl⟩: ∃ v r,vs=v::r:=by cases vs with|nil=>exact hM.elim|cons v r=>exact⟨v,r,rfl⟩
  obtain⟨h1,hM⟩:=hM
  obtain⟨v2,r2,rfl⟩: ∃ v r2,r=v::r2:=by cases r with|nil=>exact hM.elim|cons v r=>exact⟨v,r,rfl⟩
  obtain⟨h2,hM⟩:=hM
  obtain rfl:r2=[]:=by cases r2 with|nil=>rfl|cons v r=>exact hM.elim
  cases h1 with
  | str _ hl1=>
    cases h2 with
    | str _ hl2=>
      refine⟨.bool (decide (0≤Lib.indexByte s c)),.bool _,(Tryz.strings_Contains_one (Sep.S s) c w).mono fun e w' h=> ?_⟩
      obtain⟨he,rfl⟩:=h
      exact⟨he,Go.RowKit.Below.refl _ _⟩
def vV (I:Alg) (args:List D) (hp:List HO):Option CT:=match args,hp with
  |[.v (.one (.p (.str s))),.v (.one (.p (.str ([c]))))],[]=>(fun(s:Str) (c:UInt8)=>(some (.one ⟨I.hid (True),(.ret (.v (.one (.p (.bool (I.hid (decide (0≤Lib.indexByte s c)))))))),[]⟩):Option CT)) s c
  |_,_=>none
theorem Xi:zI Tryz.prog 87 (vV alg):=by
  intro args hp r h
  unfold vV at h
  split at h
  · cases h;exact fun hn=>zdN _ _
  · cases h
def Xh:Know Tryz.prog:=⟨87,vV,Xi⟩
def Xg:Know Tryz.prog:=⟨87,fun I=>zK I (vV I),zf Xi⟩
end Go.Proofs.YtmibhbdfigpkmaaGreatDoor
namespace Go.Proofs.YtmibhbdfigpkmaaGreatDoor
open Go Go.Sep Go.Ab
set_option maxRecDepth 100000
theorem zea (s:Str):decide (0≤Lib.indexByte s 9)=s.contains 9:=by
  have h: ∀ s:Str,(0≤Lib.indexByte s 9)↔s.contains 9=true:=by
    intro s
    induction s with
    |nil=>simp [Lib.indexByte]
    | cons b l ih=>
      have hb:=xE l 9
      unfold Lib.indexByte
      by_cases e:b=9
      · subst e;simp
      · have e2:(b == 9)=false:=by simpa using e
        have e3:((9:UInt8) == b)=false:=by simpa using fun h:9=b=>e h.symm
        rw [e2,if_neg (by simp),List.contains_cons,e3,Bool.false_or,← ih]
        split
        · rename_i h;have:=beq_iff_eq.1 h;omega
        · rename_i h;have: ¬ Lib.indexByte l 9= -1:=fun e=>h (by rw [e];rfl);omega
  rw [Bool.eq_iff_iff,decide_eq_true_eq];exact h s
theorem zd9 (s:Str):(0≤Lib.indexByte s 9)↔s.contains 9=true:=by rw [← zea,decide_eq_true_iff]
theorem zb3 (b:Str):Lib.hasPrefix b [47]=decide (b.head?=some 47):=by
  cases b with
  |nil=>rfl
  | cons c r=>
    unfold Lib.hasPrefix
    by_cases h:c=47
    · subst h;simp [List.isPrefixOf]
    · simp [List.isPrefixOf,h];exact fun e=>h e.symm
def xX (q:Rq) (s:Str):Rq:=
  if(begM s).1=0 then { q with h:=(begM s).2,pos:=1} else if(begM s).1=11 then { q with h:=(begM s).2} else q
def xh (q:Rq):Prop:=q.own=true
theorem zg7 (ln:Ln) (p:Int) (m tg:Str) (hm:Int) (hf:List Fld) (hl le:Int) (out:List Evt) (s:Str) (hneed:xh ⟨ln,p,⟨m,tg,hm,hf,hl⟩,le,none,true,out⟩∧s.length≤1000000):Spc Tryz.prog 70 [.v (.one (.ptr 0 0)),.v (.one (.p (.str s)))] [.abs (.rq ⟨ln,p,⟨m,tg,hm,hf,hl⟩,le,none,true,out⟩)] (.ret (.v (.one (.p (.int .i64 ((begM s).1)))))) [.abs (.rq ((xX ⟨ln,p,⟨m,tg,hm,hf,hl⟩,le,none,true,out⟩ s)))]:=by
  obtain⟨-,hs⟩:=hneed
  generalize hr:begM s=r
  obtain⟨rc,⟨rm,rt,ri,rf,rl⟩⟩:=r
  unfold xX
  rw [hr]
  unfold begM at hr
  have hsm:=wU s
  refine spcG zu mixed Tryz.func70 (by kernel_rfl) { cfgQ with keep:=some [0,1,4,5,39]} [xO,xN,zbB,zbA,xQ,xP,Xh,Xg] (by kernel_rfl) ?_
  intro I X hI hX
  refine zh (let y0:=I.hid (α:=(List (Str))) (zL s);let y1:=I.get (α:=Str) y0 ([]:Str) 0;let y2:=I.get (α:=Str) y0 ([]:Str) 1;let y3:=I.get (α:=Str) y0 ([]:Str) 2;.need (I.hid (α:=(Prop)) (LE.le (List.length s) 1000000)) (.br (I.bnot (I.ieq (I.len (α:=Str) y0) 3)) (.fin (.ret (.v (.one (.p (.int .i64 5))))) [(.abs (.rq (Go.Ab.Rq.mk ln p (Hd.mk m tg hm hf hl) le (Option.none) Bool.true out)))]) (.need (I.inb 0 (I.len (α:=Str) y0)) (.need (I.inb 0 (I.len (α:=Str) y0)) (.need (I.hid (α:=(Prop)) (LE.le (List.length y1) 1000000)) (.br (I.bnot (I.hid (α:=Bool) (yU y1))) (.fin (.ret (.v (.one (.p (.int .i64 6))))) [(.abs (.rq (Go.Ab.Rq.mk ln p (Hd.mk m tg hm hf hl) le (Option.none) Bool.true out)))]) (.need (I.inb 1 (I.len (α:=Str) y0)) (.need (I.inb 1 (I.len (α:=Str) y0)) (.need (I.hid (α:=(Prop)) True) (.br (I.bnot (I.hid (α:=Bool) (Go.Lib.hasPrefix y2 ([47]:Str)))) (.fin (.ret (.v (.one (.p (.int .i64 5))))) [(.abs (.rq (Go.Ab.Rq.mk ln p (Hd.mk m tg hm hf hl) le (Option.none) Bool.true out)))]) (.need (I.inb 1 (I.len (α:=Str) y0)) (.need (I.inb 1 (I.len (α:=Str) y0)) (.need (I.hid (α:=(Prop)) True) (.br (I.hid (α:=Bool) (Decidable.decide (LE.le (0:Int) (Go.Lib.indexByte y2 (9:UInt8))))) (.fin (.ret (.v (.one (.p (.int .i64 5))))) [(.abs (.rq (Go.Ab.Rq.mk ln p (Hd.mk m tg hm hf hl) le (Option.none) Bool.true out)))]) (.need (I.inb 0 (I.len (α:=Str) y0)) (.need (I.inb 0 (I.len (α:=Str) y0)) (.need (I.inb 1 (I.len (α:=Str) y0)) (.need (I.inb 1 (I.len (α:=Str) y0)) (.need (I.inb 2 (I.len (α:=Str) y0)) (.need (I.inb 2 (I.len (α:=Str) y0)) (.br (I.seq y3 ([72,84,84,80,47,49,46,49]:Str)) (.fin (.ret (.v (.one (.p (.int .i64 0))))) [(.abs (.rq (Go.Ab.Rq.mk (Go.Ab.Ln.mk (Go.Ab.Ln.b ln) (Go.Ab.Ln.cr ln) (Go.Ab.Ln.code ln)) (1:Int) (Hd.mk y1 y2 (1:Int) ([]:List Fld) (0:Int)) le (Option.none) Bool.true out)))]) (.br (I.seq y3 ([72,84,84,80,47,49,46,48]:Str)) (.fin (.ret (.v (.one (.p (.int .i64 0))))) [(.abs (.rq (Go.Ab.Rq.mk (Go.Ab.Ln.mk (Go.Ab.Ln.b ln) (Go.Ab.Ln.cr ln) (Go.Ab.Ln.code ln)) (1:Int) (Hd.mk y1 y2 (0:Int) ([]:List Fld) (0:Int)) le (Option.none) Bool.true out)))]) (.fin (.ret (.v (.one (.p (.int .i64 11))))) [(.abs (.rq (Go.Ab.Rq.mk (Go.Ab.Ln.mk (Go.Ab.Ln.b ln) (Go.Ab.Ln.cr ln) (Go.Ab.Ln.code ln)) p (Hd.mk y1 y2 (0:Int) ([]:List Fld) (0:Int)) le (Option.none) Bool.true out)))]))))))))))))))))))))))) (by kernel_rfl) ?_
  simp only [zC]
  subst hI
  simp only [nrmA,nrmB,nrlB,reduceCtorEq,HO.abs.injEq,Gh.rq.injEq,Rq.mk.injEq]
  generalize zL s=L at *
  by_cases h3:L.length=3
  · obtain⟨a,b,c,rfl⟩: ∃ a b c,L=[a,b,c]:=by
      match L,h3 with
      |[a,b,c],_=>exact⟨a,b,c,rfl⟩
    have ha:=hsm a (by simp)
    have hb:=hsm b (by simp)
    clear hsm h3
    simp only [show Int.toNat 1=1 from rfl,show Int.toNat 2=2 from rfl,List.getD_cons_zero,List.getD_cons_succ,zb3,zea,zd9,Bool.decide_eq_true] at hr ⊢
    by_cases q1:yU a=false
    · rw [if_pos q1] at hr
      simp only [Prod.mk.injEq,hd0,Hd.mk.injEq] at hr
      obtain⟨rfl,rfl,rfl,rfl,rfl,rfl⟩:=hr
      (repeat' (first|refine And.intro ?_ ?_|intro _))<;>first|omega|exact True.intro|exact False.elim ‹False›|skip
      all_goals first|omega|rfl|(simp only [List.length_cons,List.length_nil];omega)|(simp_all;done)|trace_state
    rw [if_neg q1] at hr
    by_cases q2:b.head?≠some 47∨b.contains 9=true
    · rw [if_pos q2] at hr
      simp only [Prod.mk.injEq,hd0,Hd.mk.injEq] at hr
      obtain⟨rfl,rfl,rfl,rfl,rfl,rfl⟩:=hr
      (repeat' (first|refine And.intro ?_ ?_|intro _))<;>first|omega|exact True.intro|exact False.elim ‹False›|skip
      all_goals first|omega|rfl|(simp only [List.length_cons,List.length_nil];omega)|(simp_all;done)|trace_state
    rw [if_neg q2] at hr
    by_cases q3:c=vF
    · rw [if_pos q3] at hr
      simp only [Prod.mk.injEq,Hd.mk.injEq] at hr
      obtain⟨rfl,rfl,rfl,rfl,rfl,rfl⟩:=hr
      unfold vF at q3
      (repeat' (first|refine And.intro ?_ ?_|intro _))<;>first|omega|exact True.intro|exact False.elim ‹False›|skip
      all_goals first|omega|rfl|(simp only [List.length_cons,List.length_nil];omega)|(simp_all;done)|trace_state
    rw [if_neg q3] at hr
    by_cases q4:c=ZV
    · rw [if_pos q4] at hr
      simp only [Prod.mk.injEq,Hd.mk.injEq] at hr
      obtain⟨rfl,rfl,rfl,rfl,rfl,rfl⟩:=hr
      unfold vF at q3
      unfold ZV at q4
      (repeat' (first|refine And.intro ?_ ?_|intro _))<;>first|omega|exact True.intro|exact False.elim ‹False›|skip
      all_goals first|omega|rfl|(simp only [List.length_cons,List.length_nil];omega)|(simp_all;done)|trace_state
    rw [if_neg q4] at hr
    simp only [Prod.mk.injEq,Hd.mk.injEq] at hr
    obtain⟨rfl,rfl,rfl,rfl,rfl,rfl⟩:=hr
    unfold vF at q3
    unfold ZV at q4
    (repeat' (first|refine And.intro ?_ ?_|intro _))<;>first|omega|exact True.intro|exact False.elim ‹False›|skip
    all_goals first|omega|rfl|(simp only [List.length_cons,List.length_nil];omega)|(simp_all;done)|trace_state
  · have hr2:(5,hd0)=((rc,⟨rm,rt,ri,rf,rl⟩):Int × Hd):=by
      rw [← hr]
      split
      · exact absurd rfl h3
      · rfl
    simp only [Prod.mk.injEq,hd0,Hd.mk.injEq] at hr2
    obtain⟨rfl,rfl,rfl,rfl,rfl,rfl⟩:=hr2
    (repeat' (first|refine And.intro ?_ ?_|intro _))<;>first|omega|exact True.intro|exact False.elim ‹False›|skip
    all_goals first|omega|rfl|(simp only [List.length_cons,List.length_nil];omega)|trace_state
theorem zg8 (ln:Ln) (p:Int) (m tg:Str) (hm:Int) (hf:List Fld) (hl le:Int) (out:List Evt) (s:Str) (hneed:xh ⟨ln,p,⟨m,tg,hm,hf,hl⟩,le,none,false,out⟩∧s.length≤1000000):Spc Tryz.prog 70 [.v (.one (.ptr 0 0)),.v (.one (.p (.str s)))] [.abs (.rq ⟨ln,p,⟨m,tg,hm,hf,hl⟩,le,none,false,out⟩)] (.ret (.v (.one (.p (.int .i64 ((begM s).1)))))) [.abs (.rq ((xX ⟨ln,p,⟨m,tg,hm,hf,hl⟩,le,none,false,out⟩ s)))]:=by
  exact absurd hneed.1 (fun h=>by unfold xh at h;cases h)
theorem zg5 (ln:Ln) (p:Int) (m tg:Str) (hm:Int) (hf:List Fld) (hl le:Int) (ch:Ch) (out:List Evt) (s:Str) (hneed:xh ⟨ln,p,⟨m,tg,hm,hf,hl⟩,le,some ch,true,out⟩∧s.length≤1000000):Spc Tryz.prog 70 [.v (.one (.ptr 0 0)),.v (.one (.p (.str s)))] [.abs (.rq ⟨ln,p,⟨m,tg,hm,hf,hl⟩,le,some ch,true,out⟩)] (.ret (.v (.one (.p (.int .i64 ((begM s).1)))))) [.abs (.rq ((xX ⟨ln,p,⟨m,tg,hm,hf,hl⟩,le,some ch,true,out⟩ s)))]:=by
  obtain⟨-,hs⟩:=hneed
  generalize hr:begM s=r
  obtain⟨rc,⟨rm,rt,ri,rf,rl⟩⟩:=r
  unfold xX
  rw [hr]
  unfold begM at hr
  have hsm:=wU s
  refine spcG zu mixed Tryz.func70 (by kernel_rfl) { cfgQ with keep:=some [0,1,4,5,39]} [xO,xN,zbB,zbA,xQ,xP,Xh,Xg] (by kernel_rfl) ?_
  intro I X hI hX
  refine zh (let y0:=I.hid (α:=(List (Str))) (zL s);let y1:=I.get (α:=Str) y0 ([]:Str) 0;let y2:=I.get (α:=Str) y0 ([]:Str) 1;let y3:=I.get (α:=Str) y0 ([]:Str) 2;.need (I.hid (α:=(Prop)) (LE.le (List.length s) 1000000)) (.br (I.bnot (I.ieq (I.len (α:=Str) y0) 3)) (.fin (.ret (.v (.one (.p (.int .i64 5))))) [(.abs (.rq (Go.Ab.Rq.mk ln p (Hd.mk m tg hm hf hl) le (Option.some ch) Bool.true out)))]) (.need (I.inb 0 (I.len (α:=Str) y0)) (.need (I.inb 0 (I.len (α:=Str) y0)) (.need (I.hid (α:=(Prop)) (LE.le (List.length y1) 1000000)) (.br (I.bnot (I.hid (α:=Bool) (yU y1))) (.fin (.ret (.v (.one (.p (.int .i64 6))))) [(.abs (.rq (Go.Ab.Rq.mk ln p (Hd.mk m tg hm hf hl) le (Option.some ch) Bool.true out)))]) (.need (I.inb 1 (I.len (α:=Str) y0)) (.need (I.inb 1 (I.len (α:=Str) y0)) (.need (I.hid (α:=(Prop)) True) (.br (I.bnot (I.hid (α:=Bool) (Go.Lib.hasPrefix y2 ([47]:Str)))) (.fin (.ret (.v (.one (.p (.int .i64 5))))) [(.abs (.rq (Go.Ab.Rq.mk ln p (Hd.mk m tg hm hf hl) le (Option.some ch) Bool.true out)))]) (.need (I.inb 1 (I.len (α:=Str) y0)) (.need (I.inb 1 (I.len (α:=Str) y0)) (.need (I.hid (α:=(Prop)) True) (.br (I.hid (α:=Bool) (Decidable.decide (LE.le (0:Int) (Go.Lib.indexByte y2 (9:UInt8))))) (.fin (.ret (.v (.one (.p (.int .i64 5))))) [(.abs (.rq (Go.Ab.Rq.mk ln p (Hd.mk m tg hm hf hl) le (Option.some ch) Bool.true out)))]) (.need (I.inb 0 (I.len (α:=Str) y0)) (.need (I.inb 0 (I.len (α:=Str) y0)) (.need (I.inb 1 (I.len (α:=Str) y0)) (.need (I.inb 1 (I.len (α:=Str) y0)) (.need (I.inb 2 (I.len (α:=Str) y0)) (.need (I.inb 2 (I.len (α:=Str) y0)) (.br (I.seq y3 ([72,84,84,80,47,49,46,49]:Str)) (.fin (.ret (.v (.one (.p (.int .i64 0))))) [(.abs (.rq (Go.Ab.Rq.mk (Go.Ab.Ln.mk (Go.Ab.Ln.b ln) (Go.Ab.Ln.cr ln) (Go.Ab.Ln.code ln)) (1:Int) (Hd.mk y1 y2 (1:Int) ([]:List Fld) (0:Int)) le (Option.some (Go.Ab.Ch.mk (Go.Ab.Ln.mk (Go.Ab.Ln.b (Go.Ab.Ch.ln ch)) (Go.Ab.Ln.cr (Go.Ab.Ch.ln ch)) (Go.Ab.Ln.code (Go.Ab.Ch.ln ch))) (Go.Ab.Ch.pos ch) (Go.Ab.Ch.left ch) (Go.Ab.Ch.all ch) (Go.Ab.Ch.tails ch) (Go.Ab.Ch.code ch))) Bool.true out)))]) (.br (I.seq y3 ([72,84,84,80,47,49,46,48]:Str)) (.fin (.ret (.v (.one (.p (.int .i64 0))))) [(.abs (.rq (Go.Ab.Rq.mk (Go.Ab.Ln.mk (Go.Ab.Ln.b ln) (Go.Ab.Ln.cr ln) (Go.Ab.Ln.code ln)) (1:Int) (Hd.mk y1 y2 (0:Int) ([]:List Fld) (0:Int)) le (Option.some (Go.Ab.Ch.mk (Go.Ab.Ln.mk (Go.Ab.Ln.b (Go.Ab.Ch.ln ch)) (Go.Ab.Ln.cr (Go.Ab.Ch.ln ch)) (Go.Ab.Ln.code (Go.Ab.Ch.ln ch))) (Go.Ab.Ch.pos ch) (Go.Ab.Ch.left ch) (Go.Ab.Ch.all ch) (Go.Ab.Ch.tails ch) (Go.Ab.Ch.code ch))) Bool.true out)))]) (.fin (.ret (.v (.one (.p (.int .i64 11))))) [(.abs (.rq (Go.Ab.Rq.mk (Go.Ab.Ln.mk (Go.Ab.Ln.b ln) (Go.Ab.Ln.cr ln) (Go.Ab.Ln.code ln)) p (Hd.mk y1 y2 (0:Int) ([]:List Fld) (0:Int)) le (Option.some (Go.Ab.Ch.mk (Go.Ab.Ln.mk (Go.Ab.Ln.b (Go.Ab.Ch.ln ch)) (Go.Ab.Ln.cr (Go.Ab.Ch.ln ch)) (Go.Ab.Ln.code (Go.Ab.Ch.ln ch))) (Go.Ab.Ch.pos ch) (Go.Ab.Ch.left ch) (Go.Ab.Ch.all ch) (Go.Ab.Ch.tails ch) (Go.Ab.Ch.code ch))) Bool.true out)))]))))))))))))))))))))))) (by kernel_rfl) ?_
  simp only [zC]
  subst hI
  simp only [nrmA,nrmB,nrlB,reduceCtorEq,HO.abs.injEq,Gh.rq.injEq,Rq.mk.injEq]
  generalize zL s=L at *
  by_cases h3:L.length=3
  · obtain⟨a,b,c,rfl⟩: ∃ a b c,L=[a,b,c]:=by
      match L,h3 with
      |[a,b,c],_=>exact⟨a,b,c,rfl⟩
    have ha:=hsm a (by simp)
    have hb:=hsm b (by simp)
    clear hsm h3
    simp only [show Int.toNat 1=1 from rfl,show Int.toNat 2=2 from rfl,List.getD_cons_zero,List.getD_cons_succ,zb3,zea,zd9,Bool.decide_eq_true] at hr ⊢
    by_cases q1:yU a=false
    · rw [if_pos q1] at hr
      simp only [Prod.mk.injEq,hd0,Hd.mk.injEq] at hr
      obtain⟨rfl,rfl,rfl,rfl,rfl,rfl⟩:=hr
      (repeat' (first|refine And.intro ?_ ?_|intro _))<;>first|omega|exact True.intro|exact False.elim ‹False›|skip
      all_goals first|omega|rfl|(simp only [List.length_cons,List.length_nil];omega)|(simp_all;done)|trace_state
    rw [if_neg q1] at hr
    by_cases q2:b.head?≠some 47∨b.contains 9=true
    · rw [if_pos q2] at hr
      simp only [Prod.mk.injEq,hd0,Hd.mk.injEq] at hr
      obtain⟨rfl,rfl,rfl,rfl,rfl,rfl⟩:=hr
      (repeat' (first|refine And.intro ?_ ?_|intro _))<;>first|omega|exact True.intro|exact False.elim ‹False›|skip
      all_goals first|omega|rfl|(simp only [List.length_cons,List.length_nil];omega)|(simp_all;done)|trace_state
    rw [if_neg q2] at hr
    by_cases q3:c=vF
    · rw [if_pos q3] at hr
      simp only [Prod.mk.injEq,Hd.mk.injEq] at hr
      obtain⟨rfl,rfl,rfl,rfl,rfl,rfl⟩:=hr
      unfold vF at q3
      (repeat' (first|refine And.intro ?_ ?_|intro _))<;>first|omega|exact True.intro|exact False.elim ‹False›|skip
      all_goals first|omega|rfl|(simp only [List.length_cons,List.length_nil];omega)|(simp_all;done)|trace_state
    rw [if_neg q3] at hr
    by_cases q4:c=ZV
    · rw [if_pos q4] at hr
      simp only [Prod.mk.injEq,Hd.mk.injEq] at hr
      obtain⟨rfl,rfl,rfl,rfl,rfl,rfl⟩:=hr
      unfold vF at q3
      unfold ZV at q4
      (repeat' (first|refine And.intro ?_ ?_|intro _))<;>first|omega|exact True.intro|exact False.elim ‹False›|skip
      all_goals first|omega|rfl|(simp only [List.length_cons,List.length_nil];omega)|(simp_all;done)|trace_state
    rw [if_neg q4] at hr
    simp only [Prod.mk.injEq,Hd.mk.injEq] at hr
    obtain⟨rfl,rfl,rfl,rfl,rfl,rfl⟩:=hr
    unfold vF at q3
    unfold ZV at q4
    (repeat' (first|refine And.intro ?_ ?_|intro _))<;>first|omega|exact True.intro|exact False.elim ‹False›|skip
    all_goals first|omega|rfl|(simp only [List.length_cons,List.length_nil];omega)|(simp_all;done)|trace_state
  · have hr2:(5,hd0)=((rc,⟨rm,rt,ri,rf,rl⟩):Int × Hd):=by
      rw [← hr]
      split
      · exact absurd rfl h3
      · rfl
    simp only [Prod.mk.injEq,hd0,Hd.mk.injEq] at hr2
    obtain⟨rfl,rfl,rfl,rfl,rfl,rfl⟩:=hr2
    (repeat' (first|refine And.intro ?_ ?_|intro _))<;>first|omega|exact True.intro|exact False.elim ‹False›|skip
    all_goals first|omega|rfl|(simp only [List.length_cons,List.length_nil];omega)|trace_state
theorem zg6 (ln:Ln) (p:Int) (m tg:Str) (hm:Int) (hf:List Fld) (hl le:Int) (ch:Ch) (out:List Evt) (s:Str) (hneed:xh ⟨ln,p,⟨m,tg,hm,hf,hl⟩,le,some ch,false,out⟩∧s.length≤1000000):Spc Tryz.prog 70 [.v (.one (.ptr 0 0)),.v (.one (.p (.str s)))] [.abs (.rq ⟨ln,p,⟨m,tg,hm,hf,hl⟩,le,some ch,false,out⟩)] (.ret (.v (.one (.p (.int .i64 ((begM s).1)))))) [.abs (.rq ((xX ⟨ln,p,⟨m,tg,hm,hf,hl⟩,le,some ch,false,out⟩ s)))]:=by
  exact absurd hneed.1 (fun h=>by unfold xh at h;cases h)
theorem zjo (q:Rq) (s:Str) (hneed:xh q∧s.length≤1000000):Spc Tryz.prog 70 [.v (.one (.ptr 0 0)),.v (.one (.p (.str s)))] [.abs (.rq q)] (.ret (.v (.one (.p (.int .i64 ((begM s).1)))))) [.abs (.rq ((xX q s)))]:=by
  obtain⟨ln,p,⟨m,tg,hm,hf,hl⟩,le,ck,own,out⟩:=q
  cases ck with
  | none=>cases own with
    |true=>exact zg7 ln p m tg hm hf hl le out s hneed
    |false=>exact zg8 ln p m tg hm hf hl le out s hneed
  | some ch=>cases own with
    |true=>exact zg5 ln p m tg hm hf hl le ch out s hneed
    |false=>exact zg6 ln p m tg hm hf hl le ch out s hneed
def XE (I:Alg) (args:List D) (hp:List HO):Option CT:=match args,hp with
  |[.v (.one (.ptr 0 0)),.v (.one (.p (.str s)))],[.abs (.rq q)]=>(fun(q:Rq) (s:Str)=>(some (.one ⟨I.hid (xh q∧s.length≤1000000),(.ret (.v (.one (.p (.int .i64 (I.hid ((begM s).1))))))),[.abs (.rq (I.hid ((xX q s))))]⟩):Option CT)) q s
  |_,_=>none
theorem zbY:zI Tryz.prog 70 (XE alg):=by
  intro args hp r h
  unfold XE at h
  split at h
  · cases h;exact fun hn=>zjo _ _ hn
  · cases h
def zbX:Know Tryz.prog:=⟨70,XE,zbY⟩
def zbW:Know Tryz.prog:=⟨70,fun I=>zK I (XE I),zf zbY⟩
def FsOk (f:List Fld):Prop:=f.length≤1000∧∀ x ∈ f,x.name.length≤1000000∧x.value.length≤1000000
theorem uo (f:List Fld) (n:Str):(valsF f n).length≤f.length:=by
  unfold valsF
  first|exact Nat.le_trans (List.length_map ..).le (List.length_filter_le _ _)|(rw [List.length_map];exact List.length_filter_le _ _)|exact List.length_filterMap_le _ _
theorem zgP (a:Str) (n:Int) (l:List Str) (i:Nat) (h: ¬ i<l.length):sizM a n (l.drop i)=(n,0):=by
  rw [List.drop_of_length_le (by omega)];rfl
theorem zee (a:Str) (n:Int) (l:List Str) (i:Nat) (h:i<l.length):sizM a n (l.drop i)=if(numA (l.getD i []) 10 9).2=false then(0,7) else if l.getD i []≠a then(0,12) else sizM a (numA (l.getD i []) 10 9).1 (l.drop (i+1)):=by
  rw [List.drop_eq_getElem_cons h,show l.getD i []=l[i] by simp [h]];rfl
theorem zjl (m t:Str) (mi:Int) (f:List Fld) (le:Int) (hneed:FsOk f):Spc Tryz.prog 88 [.v (.agg [(.p (.str m)),(.p (.str t)),(.p (.int .i64 mi)),(.p (.list .fld f)),(.p (.int .i64 le))])] [] (.ret (.tup [(.one (.p (.int .i64 ((lenM mi f).1)))),(.one (.p (.int .i64 ((lenM mi f).2))))])) []:=by
  obtain⟨hf1,hf2⟩:=hneed
  generalize hr:lenM mi f=r
  obtain⟨rn,rc⟩:=r
  refine spcG zu mixed Tryz.func88 (by kernel_rfl) { keep:=some [0,1,2,3,4,5,6,7,8,9,10,45,46,47]} [Ye,Yd,qZ,qY,UG,UF] (by kernel_rfl) ?_
  intro I X hI hX
  refine zh (let y0:=I.hid (α:=(List (Str))) (valsF f ([116,114,97,110,115,102,101,114,45,101,110,99,111,100,105,110,103]:Str));let y1:=I.hid (α:=(List (Str))) (valsF f ([99,111,110,116,101,110,116,45,108,101,110,103,116,104]:Str));let y2:=I.bnot (I.seq (I.hid (α:=Str) (lowS (I.get (α:=Str) y0 ([]:Str) 0))) ([99,104,117,110,107,101,100]:Str));let y3:HO:=.obj 25 [(.p (.str m)),(.p (.str t)),(.p (.int .i64 mi)),(.p (.list .fld f)),(.p (.int .i64 le))];let y4:=I.hid (α:=(Prop)) (LE.le (List.length (I.get (α:=Str) y0 ([]:Str) 0)) 1000000);.need (I.hid (α:=(Prop)) (And (LE.le (List.length f) 1000) (And (LE.le (List.length ([99,111,110,116,101,110,116,45,108,101,110,103,116,104]:Str)) 1000000) (∀ (f_1:Fld),f_1 ∈ f→List.length f_1.name≤1000000∧List.length f_1.value≤1000000)))) (.need (I.hid (α:=(Prop)) (And (LE.le (List.length f) 1000) (And (LE.le (List.length ([116,114,97,110,115,102,101,114,45,101,110,99,111,100,105,110,103]:Str)) 1000000) (∀ (f_1:Fld),f_1 ∈ f→List.length f_1.name≤1000000∧List.length f_1.value≤1000000)))) (.br (I.ilt 0 (I.len (α:=Str) y0)) (.br (I.ilt 0 (I.len (α:=Str) y1)) (.fin (.ret (.tup [(.one (.p (.int .i64 0))),(.one (.p (.int .i64 12)))])) []) (.br (I.ieq mi 0) (.fin (.ret (.tup [(.one (.p (.int .i64 0))),(.one (.p (.int .i64 12)))])) []) (.br (I.ilt 0 (I.len (α:=Str) y0)) (.br (I.ilt 1 (I.len (α:=Str) y0)) (.fin (.ret (.tup [(.one (.p (.int .i64 0))),(.one (.p (.int .i64 11)))])) []) (.need (I.inb 0 (I.len (α:=Str) y0)) (.need (I.inb 0 (I.len (α:=Str) y0)) (.need y4 (.br y2 (.fin (.ret (.tup [(.one (.p (.int .i64 0))),(.one (.p (.int .i64 11)))])) []) (.fin (.ret (.tup [(.one (.p (.int .i64 (Neg.neg (1:Int))))),(.one (.p (.int .i64 0)))])) [])))))) (.code 0 [1,1,1,1,0,1,0] ⟨[(47,(.v (.one (.p (.int .i64 0))))),(46,(.v (.one (.p (.int .i64 (I.len (α:=Str) y1)))))),(45,(.v (.one (.row 1)))),(6,(.v (.one (.p (.int .i64 0))))),(5,(.v (.one (.row 2)))),(4,(.v (.one (.row 1)))),(3,(.v (.one (.p (.int .i64 0))))),(2,(.v (.one (.p (.int .i64 0))))),(1,(.v (.one (.ptr 0 0)))),(0,(.v (.agg [(.p (.str m)),(.p (.str t)),(.p (.int .i64 mi)),(.p (.list .fld f)),(.p (.int .i64 le))])))],[y3,(.row .str 9 y1),(.row .str 9 y0)],75,none⟩)))) (.br (I.ilt 0 (I.len (α:=Str) y0)) (.br (I.ilt 1 (I.len (α:=Str) y0)) (.fin (.ret (.tup [(.one (.p (.int .i64 0))),(.one (.p (.int .i64 11)))])) []) (.need (I.inb 0 (I.len (α:=Str) y0)) (.need (I.inb 0 (I.len (α:=Str) y0)) (.need y4 (.br y2 (.fin (.ret (.tup [(.one (.p (.int .i64 0))),(.one (.p (.int .i64 11)))])) []) (.fin (.ret (.tup [(.one (.p (.int .i64 (Neg.neg (1:Int))))),(.one (.p (.int .i64 0)))])) [])))))) (.code 0 [1,1,1,1,0,1,0] ⟨[(47,(.v (.one (.p (.int .i64 0))))),(46,(.v (.one (.p (.int .i64 (I.len (α:=Str) y1)))))),(45,(.v (.one (.row 1)))),(6,(.v (.one (.p (.int .i64 0))))),(5,(.v (.one (.row 2)))),(4,(.v (.one (.row 1)))),(3,(.v (.one (.p (.int .i64 0))))),(2,(.v (.one (.p (.int .i64 0))))),(1,(.v (.one (.ptr 0 0)))),(0,(.v (.agg [(.p (.str m)),(.p (.str t)),(.p (.int .i64 mi)),(.p (.list .fld f)),(.p (.int .i64 le))])))],[y3,(.row .str 9 y1),(.row .str 9 y0)],75,none⟩))))) (by kernel_rfl) ?_
  simp only [zC]
  have hh: ∀ {α:Type} (x:α),I.hid x=x:=by subst hI;intros;rfl
  have hln: ∀ (l:List Str),I.len l=(l.length:Int):=by subst hI;intros;rfl
  simp only [hh,hln]
  unfold lenM at hr
  rw [show qC=[116,114,97,110,115,102,101,114,45,101,110,99,111,100,105,110,103] from rfl,show wX=[99,111,110,116,101,110,116,45,108,101,110,103,116,104] from rfl] at hr
  have hL1:=uo f [99,111,110,116,101,110,116,45,108,101,110,103,116,104]
  have hT1:=uo f [116,114,97,110,115,102,101,114,45,101,110,99,111,100,105,110,103]
  have hT2: ∀ x ∈ valsF f [116,114,97,110,115,102,101,114,45,101,110,99,111,100,105,110,103],x.length≤1000000:=by
    intro x hx
    unfold valsF at hx
    rw [List.mem_map] at hx
    obtain⟨y,hy,rfl⟩:=hx
    exact(hf2 y (List.mem_filter.1 hy).1).2
  generalize valsF f [99,111,110,116,101,110,116,45,108,101,110,103,116,104]=L at *
  generalize valsF f [116,114,97,110,115,102,101,114,45,101,110,99,111,100,105,110,103]=T at *
  have keyL: ∀ (k:Int) (st:St),k=(L.length:Int)→(if(sizM (L.getD 0 []) 0 L).2≠0 then(0,(sizM (L.getD 0 []) 0 L).2) else if 4000<(sizM (L.getD 0 []) 0 L).1 then(0,4) else((sizM (L.getD 0 []) 0 L).1,0))=(rn,rc)→cutM { keep:=some [0,1,2,3,4,5,6,7,8,9,10,45,46,47]} 0 [4,6,45,46,47] st=some ⟨[(4,.v (.one (.row 0))),(6,.v (.one (.p (.int .i64 0)))),(45,.v (.one (.row 0))),(46,.v (.one (.p (.int .i64 k)))),(47,.v (.one (.p (.int .i64 0))))],[.row .str 9 L],75,none⟩→Ok Tryz.prog X (fun o h=>o=(.ret (.tup [(.one (.p (.int .i64 rn))),(.one (.p (.int .i64 rc)))]))∧h=[]) (leaf I tab { keep:=some [0,1,2,3,4,5,6,7,8,9,10,45,46,47]} [⟨zcX Tryz.f88,finK I tab { keep:=some [0,1,2,3,4,5,6,7,8,9,10,45,46,47]} 0 Tryz.f88⟩] 0 [1,1,1,1,0,1,0] st):=by
    intro k st hk hm hst
    refine yw hI zu mixed [Ye,Yd,qZ,qY,UG,UF] hX [4,6,45,46,47] (fun(g:Nat × Int)=>match g with|(i,n)=>i≤L.length∧(if(sizM (L.getD 0 []) n (L.drop i)).2≠0 then(0,(sizM (L.getD 0 []) n (L.drop i)).2) else if 4000<(sizM (L.getD 0 []) n (L.drop i)).1 then(0,4) else((sizM (L.getD 0 []) n (L.drop i)).1,0))=(rn,rc)) (fun(g:Nat × Int)=>match g with|(i,n)=>⟨[(4,.v (.one (.row 0))),(6,.v (.one (.p (.int .i64 n)))),(45,.v (.one (.row 0))),(46,.v (.one (.p (.int .i64 k)))),(47,.v (.one (.p (.int .i64 i))))],[.row .str 9 L],75,none⟩) (fun(g:Nat × Int)=>match g with|(i,n)=>L.length - i) (0,0) (by kernel_rfl) hst ?_ ?_
    · exact⟨Nat.zero_le _,hm⟩
    clear hm hst hr
    rintro⟨i,n⟩ ⟨h1,hm⟩ A hA
    simp only at hA
    refine zh (let y0:=I.get (α:=Str) L ([]:Str) (Nat.cast i);let y1:=I.hid (α:=Int) (Prod.fst (numA y0 (10:Int) (9:Int)));let y2:=I.inr Go.IntKind.i64 (I.add (Nat.cast i) 1);let y3:=I.inb (Nat.cast i) (I.len (α:=Str) L);.br (I.ilt (Nat.cast i) k) (.need y3 (.need y3 (.need (I.hid (α:=(Prop)) True) (.br (I.bnot (I.hid (α:=Bool) (Prod.snd (numA y0 (10:Int) (9:Int))))) (.fin (.ret (.tup [(.one (.p (.int .i64 0))),(.one (.p (.int .i64 7)))])) []) (.br (I.ilt 0 (Nat.cast i)) (.need (I.inb 0 (I.len (α:=Str) L)) (.need (I.inb 0 (I.len (α:=Str) L)) (.br (I.bnot (I.seq y0 (I.get (α:=Str) L ([]:Str) 0))) (.fin (.ret (.tup [(.one (.p (.int .i64 0))),(.one (.p (.int .i64 12)))])) []) (.need y2 (.need (A ⟨[(4,(.v (.one (.row 0)))),(6,(.v (.one (.p (.int .i64 y1))))),(45,(.v (.one (.row 0)))),(46,(.v (.one (.p (.int .i64 k))))),(47,(.v (.one (.p (.int .i64 (I.add (Nat.cast i) 1))))))],[(.row .str 9 L)],75,none⟩) .qed))))) (.need y2 (.need (A ⟨[(4,(.v (.one (.row 0)))),(6,(.v (.one (.p (.int .i64 y1))))),(45,(.v (.one (.row 0)))),(46,(.v (.one (.p (.int .i64 k))))),(47,(.v (.one (.p (.int .i64 (I.add (Nat.cast i) 1))))))],[(.row .str 9 L)],75,none⟩) .qed))))))) (.br (I.ilt 4000 n) (.fin (.ret (.tup [(.one (.p (.int .i64 0))),(.one (.p (.int .i64 4)))])) []) (.fin (.ret (.tup [(.one (.p (.int .i64 n))),(.one (.p (.int .i64 0)))])) []))) (by kernel_rfl) ?_
    simp only [zC]
    subst hI
    simp only [nrmA,nrmB]
    by_cases hi:i<L.length
    · rw [zee _ _ _ _ hi] at hm
      have h0:i=0→L.getD i []=L.getD 0 []:=fun h=>by rw [h]
      have hn:=WN (L.getD i [])
      have hgo:=hA (i+1,(numA (L.getD i []) 10 9).1)
      generalize L.getD i []=x at *
      generalize L.getD 0 []=y at *
      generalize numA x 10 9=na at *
      obtain⟨na,nb⟩:=na
      simp only at hm hgo hn
      cases nb with
      | false=>
        rw [if_pos rfl] at hm
        simp only [ne_eq,Int.reduceEq,not_false_eq_true,if_true,Prod.mk.injEq] at hm
        obtain⟨rfl,rfl⟩:=hm
        (repeat' (first|refine And.intro ?_ ?_|intro _))<;>first|omega|exact True.intro|exact False.elim ‹False›|skip
        all_goals first|omega|rfl|contradiction|(simp_all;done)|trace_state
      | true=>
        simp only [Bool.true_eq_false,if_false] at hm
        by_cases hxy:x=y
        · simp only [if_neg (fun h:x≠y=>h hxy)] at hm
          have hg:=hgo ⟨by omega,hm⟩ (by omega)
          (repeat' (first|refine And.intro ?_ ?_|intro _))<;>first|omega|exact True.intro|exact False.elim ‹False›|skip
          all_goals first|omega|exact hg|contradiction|(exfalso;exact ‹¬ x=y› hxy)|trace_state
        · simp only [if_pos (show x≠y from hxy),ne_eq,Int.reduceEq,not_false_eq_true,if_true,Prod.mk.injEq] at hm
          obtain⟨rfl,rfl⟩:=hm
          have hi0: ¬ i=0:=fun h=>hxy (h0 h)
          (repeat' (first|refine And.intro ?_ ?_|intro _))<;>first|omega|exact True.intro|exact False.elim ‹False›|skip
          all_goals first|omega|rfl|contradiction|(exfalso;exact hxy ‹x=y›)|trace_state
    · rw [zgP _ _ _ _ hi] at hm
      simp only [ne_eq,not_true_eq_false,if_false] at hm
      by_cases h4:4000<n
      · rw [if_pos h4] at hm
        simp only [Prod.mk.injEq] at hm
        obtain⟨rfl,rfl⟩:=hm
        (repeat' (first|refine And.intro ?_ ?_|intro _))<;>first|omega|exact True.intro|exact False.elim ‹False›|skip
        all_goals first|omega|rfl|trace_state
      · rw [if_neg h4] at hm
        simp only [Prod.mk.injEq] at hm
        obtain⟨rfl,rfl⟩:=hm
        (repeat' (first|refine And.intro ?_ ?_|intro _))<;>first|omega|exact True.intro|exact False.elim ‹False›|skip
        all_goals first|omega|rfl|trace_state
  subst hI
  have hT0:T.length=0↔T=[]:=List.length_eq_zero_iff
  have hLz:L.length=0↔L=[]:=List.length_eq_zero_iff
  simp only [nrmA,nrmB]
  have hg0:0<T.length→(T.getD 0 []).length≤1000000:=fun h=>hT2 _ (by rw [show T.getD 0 []=T[0] by simp [h]];exact List.getElem_mem h)
  by_cases q1:T=[]
  · rw [if_neg (fun h=>h q1)] at hr
    have q2:=hT0.2 q1
    clear hg0 hT2
    (repeat' (first|refine And.intro ?_ ?_|intro _))<;>first|omega|exact True.intro|exact False.elim ‹False›|skip
    all_goals first
      |omega
      |((with_reducible show Ok _ _ _ _);(try(exfalso;omega));exact keyL _ _ rfl hr (by kernel_rfl))
      |exact⟨hf1,by decide,hf2⟩
      |exact hf1
      |(exact(hf2 _ ‹_›).1)
      |(exact(hf2 _ ‹_›).2)
      |decide
  · rw [if_pos q1] at hr
    have q2: ¬ T.length=0:=fun h=>q1 (hT0.1 h)
    clear keyL
    by_cases q3:L≠[]∨mi=0
    · rw [if_pos q3] at hr
      simp only [Prod.mk.injEq] at hr
      obtain⟨rfl,rfl⟩:=hr
      have q4:L.length=0→mi=0:=fun h=>by
        rcases q3 with q3|q3
        · exact absurd (hLz.1 h) q3
        · exact q3
      (repeat' (first|refine And.intro ?_ ?_|intro _))<;>first|omega|exact True.intro|exact False.elim ‹False›|skip
      all_goals first|omega|rfl|(exact(hf2 _ ‹_›).1)|(exact(hf2 _ ‹_›).2)|decide|trace_state
    · rw [if_neg q3] at hr
      simp only [not_or,ne_eq,Decidable.not_not] at q3
      have q4:=hLz.2 q3.1
      by_cases q5:1<T.length∨lowS (T.getD 0 [])≠XW
      · rw [if_pos q5] at hr
        unfold XW at q5
        simp only [Prod.mk.injEq] at hr
        obtain⟨rfl,rfl⟩:=hr
        (repeat' (first|refine And.intro ?_ ?_|intro _))<;>first|omega|exact True.intro|exact False.elim ‹False›|skip
        all_goals first|omega|rfl|(exact(hf2 _ ‹_›).1)|(exact(hf2 _ ‹_›).2)|decide|exact hg0 (by omega)|(exfalso;rcases q5 with q5|q5<;>first|omega|exact q5 ‹_›)|trace_state
      · rw [if_neg q5] at hr
        unfold XW at q5
        simp only [not_or,ne_eq,Decidable.not_not] at q5
        simp only [Prod.mk.injEq] at hr
        obtain⟨rfl,rfl⟩:=hr
        (repeat' (first|refine And.intro ?_ ?_|intro _))<;>first|omega|exact True.intro|exact False.elim ‹False›|skip
        all_goals first|omega|rfl|(exact(hf2 _ ‹_›).1)|(exact(hf2 _ ‹_›).2)|decide|exact hg0 (by omega)|(exfalso;exact ‹¬ _=_› q5.2)|trace_state
def XB (I:Alg) (args:List D) (hp:List HO):Option CT:=match args,hp with
  |[.v (.agg [(.p (.str m)),(.p (.str t)),(.p (.int .i64 mi)),(.p (.list .fld f)),(.p (.int .i64 le))])],[]=>(fun(m t:Str) (mi:Int) (f:List Fld) (le:Int)=>(some (.one ⟨I.hid (FsOk f),(.ret (.tup [(.one (.p (.int .i64 (I.hid ((lenM mi f).1))))),(.one (.p (.int .i64 (I.hid ((lenM mi f).2)))))])),[]⟩):Option CT)) m t mi f le
  |_,_=>none
theorem zbU:zI Tryz.prog 88 (XB alg):=by
  intro args hp r h
  unfold XB at h
  split at h
  · cases h;exact fun hn=>zjl _ _ _ _ _ hn
  · cases h
def zbT:Know Tryz.prog:=⟨88,XB,zbU⟩
def zbS:Know Tryz.prog:=⟨88,fun I=>zK I (XB I),zf zbU⟩
end Go.Proofs.YtmibhbdfigpkmaaGreatDoor
namespace Go.Proofs.YtmibhbdfigpkmaaGreatDoor
open Go Go.Sep Go.Ab
set_option maxRecDepth 100000
def firM (s:Str):Hd × Int:=
  match zL s with
  | [a,b,c]=>
    if yU a=false then(hd0,6)
    else if b.head?≠some 47∨b.contains 9=true then(hd0,5)
    else if c=vF then(⟨a,b,1,[],0⟩,0)
    else if c=ZV then(⟨a,b,0,[],0⟩,0)
    else(hd0,11)
  |_=>(hd0,5)
theorem zho (s:Str):(firM s).2=(begM s).1∧((begM s).1=0→(firM s).1=(begM s).2):=by
  unfold firM begM
  rcases zL s with _|⟨a,_|⟨b,_|⟨c,_|⟨d,e⟩⟩⟩⟩
  · exact⟨rfl,fun h=>absurd h (by simp)⟩
  · exact⟨rfl,fun h=>absurd h (by simp)⟩
  · exact⟨rfl,fun h=>absurd h (by simp)⟩
  · simp only
    by_cases h1:yU a=false
    · rw [if_pos h1,if_pos h1];exact⟨rfl,fun h=>absurd h (by decide)⟩
    rw [if_neg h1,if_neg h1]
    by_cases h2:b.head?≠some 47∨b.contains 9=true
    · rw [if_pos h2,if_pos h2];exact⟨rfl,fun h=>absurd h (by decide)⟩
    rw [if_neg h2,if_neg h2]
    by_cases h3:c=vF
    · rw [if_pos h3,if_pos h3];exact⟨rfl,fun _=>rfl⟩
    rw [if_neg h3,if_neg h3]
    by_cases h4:c=ZV
    · rw [if_pos h4,if_pos h4];exact⟨rfl,fun _=>rfl⟩
    rw [if_neg h4,if_neg h4]
    exact⟨rfl,fun h=>absurd h (by simp)⟩
  · exact⟨rfl,fun h=>absurd h (by simp)⟩
end Go.Proofs.YtmibhbdfigpkmaaGreatDoor
namespace Go.Proofs.YtmibhbdfigpkmaaGreatDoor
open Go Go.Sep Go.Ab
set_option maxRecDepth 100000
def ZQ (mi:Int) (f:List Fld):Int × Int:=if za1 mi f=true then(0,13) else lenM mi f
theorem zhf (h:Hd):lenH h=ZQ h.minor h.fields:=rfl
end Go.Proofs.YtmibhbdfigpkmaaGreatDoor
namespace Go.Proofs.YtmibhbdfigpkmaaGreatDoor
open Go Go.Sep Go.Ab
set_option maxRecDepth 100000
def bodE (b:Str):List Evt:=if b=[] then [] else [evB b]
def preG (x:List Evt) (p:List Evt × Bool):List Evt × Bool:=(x++p.1,p.2)
def reqG:Nat→Option Hd→Str→List Evt × Bool
  |0,_,_=>([],false)
  | f+1,none,r=>match xA ln0 r with
    |.more _=>([],decide (r≠[]))
    |.bad e _=>([evF e],false)
    |.line t rest=>if t=[] then reqG f none rest else if(begM t).1≠0 then([evF (begM t).1],false) else reqG f (some (begM t).2) rest
  | f + 1,some h,r=>match xA ln0 r with
    |.more _=>([],true)
    |.bad e _=>([evF e],false)
    | .line t rest=>
      if t=[] then
        (if(lenH h).2≠0 then([evF (lenH h).2],false)
        else preG [evH { h with length:=(lenH h).1}]
          (if 0≤(lenH h).1 then
            (if(lenH h).1≤rest.length then preG (bodE (rest.take (lenH h).1.toNat)++[evE]) (reqG f none (rest.drop (lenH h).1.toNat)) else(bodE rest,true))
          else match xZ rest with
            |.more o _=>(bodE o,true)
            |.bad o e _=>(bodE o++[evF e],false)
            |.over o rest2=>preG (bodE o++[evE]) (reqG f none rest2)))
      else if h.fields.length=16 then([evF 8],false)
      else if(zW t).2≠0 then([evF (zW t).2],false)
      else reqG f (some { h with fields:=h.fields++[(zW t).1]}) rest
def Vs (l:List Evt):Bool:=match l.getLast? with|some e=>decide (e.kind=4)|none=>false
def N2 (l:List Evt):Prop:=∀ z x,l=z++[x]→x.kind≠2
theorem zfp:N2 []:=fun z x h=>by simp at h
theorem zfo {l:List Evt} {e:Evt} (h:e.kind≠2):N2 (l++[e]):=fun z x k=>by
  have:=(List.append_inj' k rfl).2
  simp only [List.cons.injEq,and_true] at this
  rw [← this];exact h
theorem zhg {e:Evt} (h:e.kind≠2) (o:List Evt):xU o e=o++[e]:=by
  rcases List.eq_nil_or_concat o with rfl|⟨z,x,rfl⟩
  · rfl
  · rw [List.concat_eq_append,yC,if_neg (fun k=>h k.1)]
theorem zco (l:List Evt) (e:Evt):zD (l++[e])=xU (zD l) e:=by simp [zD,List.foldl_append]
theorem XM {e:Evt} (h:e.kind≠2) (o:List Evt):zD (o++[e])=zD o++[e]:=by rw [zco,zhg h]
def Bods (l:List Evt) (o:Str):Prop:=(∀ e ∈ l,∃ b,b≠[]∧e=evB b)∧(l.map fun e=>e.bytes).flatten=o
theorem Yi:Bods [] []:=⟨(fun e h=>by cases h),rfl⟩
theorem zdE {o:List Evt} (hn:N2 (zD o)): ∀ (l:List Evt) (p:Str),Bods l p→zD (o++l)=zD o++bodE p:=by
  suffices h: ∀ (l m:List Evt) (a:Str),zD (o++m)=zD o++bodE a→(∀ e ∈ l,∃ b,b≠[]∧e=evB b)→zD (o++m++l)=zD o++bodE (a++(l.map fun e=>e.bytes).flatten) by
    intro l p hb
    have:=h l [] [] (by simp [bodE]) hb.1
    rw [List.append_nil,List.nil_append,hb.2] at this
    exact this
  intro l
  induction l with
  |nil=>intro m a h _;simpa using h
  | cons e l ih=>
    intro m a h hl
    obtain⟨b,hb,rfl⟩:=hl e (List.mem_cons_self ..)
    have hs:zD (o++(m++[evB b]))=zD o++bodE (a++b):=by
      rw [← List.append_assoc,zco,h]
      unfold bodE
      rw [if_neg (show ¬ a++b=[] by simp [hb])]
      by_cases ha:a=[]
      · subst ha
        rw [if_pos rfl,List.append_nil,List.nil_append]
        rcases List.eq_nil_or_concat (zD o) with h0|⟨z,x,h0⟩
        · rw [h0];rfl
        · rw [List.concat_eq_append] at h0
          rw [h0,yC,if_neg (fun k=>hn z x h0 k.2)]
      · rw [if_neg ha,yC,if_pos ⟨rfl,rfl⟩];rfl
    have:=ih (m++[evB b]) (a++b) hs (fun x hx=>hl x (List.mem_cons_of_mem _ hx))
    rw [show o++m++evB b::l=o++(m++[evB b])++l by simp,this]
    simp [evB]
theorem rM {q:Rq} (h:q.pos=4): ∀ r:Str,yE q r=q
  |[]=>rfl
  | c::r=>by
    have:rqF q c=q:=by unfold rqF;rw [if_neg (by omega),if_neg (by omega),if_neg (by omega)]
    show yE (rqF q c) r=q
    rw [this];exact rM h r
theorem Yz {q:Rq} (hp:q.pos=0∨q.pos=1): ∀ (r:Str) (l:Ln),l.code=0→match xA l r with
    |.more s=>yE { q with ln:=l} r= { q with ln:=s}
    |.bad e _=>∃ l',yE { q with ln:=l} r=zX { q with ln:=l'} e
    |.line t rest=>yE { q with ln:=l} r=(if(zG { q with ln:=ln0} t).2≠0 then zX (zG { q with ln:=ln0} t).1 (zG { q with ln:=ln0} t).2 else yE (zG { q with ln:=ln0} t).1 rest)
  |[],l,hl=>rfl
  | c ::r,l,hl=>by
    have e0:rqF { q with ln:=l} c=(if(lnF l c).2.2.2≠0 then zX { q with ln:=(lnF l c).1} (lnF l c).2.2.2
      else if(lnF l c).2.2.1=true then
        (if(zG { q with ln:=(lnF l c).1} (lnF l c).2.1).2≠0 then zX (zG { q with ln:=(lnF l c).1} (lnF l c).2.1).1 (zG { q with ln:=(lnF l c).1} (lnF l c).2.1).2
        else(zG { q with ln:=(lnF l c).1} (lnF l c).2.1).1)
      else { q with ln:=(lnF l c).1}):=by
      unfold rqF
      rw [if_neg (show ¬ q.pos=2 by omega),if_neg (show ¬ q.pos=3 by omega),if_pos (show q.pos=0∨q.pos=1 from hp)]
    have e1:yE { q with ln:=l} (c::r)=yE (rqF { q with ln:=l} c) r:=rfl
    rw [e1,e0,xA]
    by_cases h1:(lnF l c).2.2.1=true
    · obtain⟨h2,h3⟩:=zcl h1 hl
      rw [if_pos h1,if_pos h1,if_neg (by simp [h2]),h3]
      simp only
      split
      · exact rM rfl r
      · rfl
    · rw [if_neg h1,if_neg h1]
      by_cases h2:(lnF l c).2.2.2=0
      · rw [if_neg (by simp [h2]),if_neg (by simp [h2])]
        exact Yz hp r (lnF l c).1 (zcm h2)
      · rw [if_pos h2,if_pos h2]
        exact⟨(lnF l c).1,rM rfl r⟩
theorem VW: ∀ (r:Str) (q:Rq) (n:Nat),q.pos=2→q.left=((n+1:Nat):Int)→∃ l,Bods l (r.take (n+1))∧yE q r=if r.length<n+1 then { q with out:=q.out++l,left:=q.left - r.length} else yE (yP { q with out:=q.out++l,left:=0}) (r.drop (n+1))
  |[],q,n,hp,hl=>⟨[],Yi,by rw [if_pos (by simp)];simp [yE]⟩
  | c :: r,q,n,hp,hl=>by
    have e0:rqF q c=if q.left - 1=0 then yP { q with out:=q.out++[evB [c]],left:=0} else { q with out:=q.out++[evB [c]],left:=q.left - 1}:=by
      unfold rqF
      rw [if_pos hp]
    have e1:yE q (c::r)=yE (rqF q c) r:=rfl
    rw [e1,e0]
    cases n with
    | zero=>
      refine⟨[evB [c]],⟨fun e h=>⟨[c],by simp,by simpa using h⟩,by simp [evB]⟩,?_⟩
      rw [if_pos (by omega),if_neg (by simp)]
      rfl
    | succ n=>
      rw [if_neg (by omega)]
      obtain⟨l,hb,hr⟩:=VW r { q with out:=q.out++[evB [c]],left:=q.left - 1} n hp (by show q.left - 1=_;omega)
      refine⟨evB [c]::l,⟨fun e h=> ?_,?_⟩,?_⟩
      · rcases List.mem_cons.1 h with rfl|h
        · exact⟨[c],by simp,rfl⟩
        · exact hb.1 e h
      · rw [List.map_cons,List.flatten_cons,hb.2];simp [evB]
      · rw [hr]
        simp only [List.length_cons,List.drop_succ_cons]
        by_cases h:r.length<n+1
        · rw [if_pos h,if_pos (by omega)]
          simp only [Rq.mk.injEq,true_and,List.append_assoc,List.cons_append,List.nil_append]
          refine⟨?_,trivial⟩
          omega
        · rw [if_neg h,if_neg (by omega)]
          simp only [List.append_assoc,List.cons_append,List.nil_append]
theorem U4: ∀ (r:Str) (q:Rq) (c:Ch),q.pos=3→q.ck=some c→match wQ c r with
    |.more o _=>∃ k l,Bods l o∧yE q r= { q with ck:=some k,out:=q.out++l}
    |.bad o e _=>∃ k l,Bods l o∧yE q r=zX { q with ck:=some k,out:=q.out++l} e
    |.over o rest=>∃ k l,Bods l o∧yE q r=yE (yP { q with ck:=some k,out:=q.out++l}) rest
  |[],q,c,hp,hk=>⟨c,[],Yi,by simp [yE,← hk]⟩
  | b :: r, q,c,hp,hk=>by
    have hc:ckOf q=c:=by unfold ckOf;rw [hk]
    have e0:rqF q b=(if(chF c b).2.2.2≠0 then zX { q with ck:=some (chF c b).1} (chF c b).2.2.2
      else if(chF c b).2.2.1=true then yP { q with ck:=some (chF c b).1,out:=if(chF c b).2.1≠[] then q.out++[evB (chF c b).2.1] else q.out}
      else { q with ck:=some (chF c b).1,out:=if(chF c b).2.1≠[] then q.out++[evB (chF c b).2.1] else q.out}):=by
      unfold rqF
      rw [if_neg (by omega),if_pos hp,hc]
    have e1:yE q (b::r)=yE (rqF q b) r:=rfl
    have hd:=zcT (s:=c) (c:=b)
    rw [e1,e0,wQ]
    by_cases h1:(chF c b).2.2.2=0
    · rw [if_neg (show ¬ (chF c b).2.2.2≠0 by simp [h1]),if_neg (show ¬ (chF c b).2.2.2≠0 by simp [h1])]
      by_cases h2:(chF c b).2.2.1=true
      · rw [if_pos h2,if_pos h2]
        have hz:=(hd.2.2.1 h2).2.1
        refine⟨(chF c b).1,[],Yi,?_⟩
        rw [if_neg (show ¬ (chF c b).2.1≠[] by simp [hz]),List.append_nil]
      · rw [if_neg h2,if_neg h2]
        by_cases h3:(chF c b).2.1=[]
        · rw [if_neg (show ¬ (chF c b).2.1≠[] by simp [h3])]
          have ih:=U4 r { q with ck:=some (chF c b).1,out:=q.out} (chF c b).1 hp rfl
          rw [h3,ChR.pre_nil]
          exact ih
        · rw [if_pos h3]
          have ih:=U4 r { q with ck:=some (chF c b).1,out:=q.out++[evB (chF c b).2.1]} (chF c b).1 hp rfl
          have hb: ∀ l o,Bods l o→Bods (evB (chF c b).2.1::l) ((chF c b).2.1++o):=fun l o h=>⟨fun e he=>by
            rcases List.mem_cons.1 he with rfl|he
            · exact⟨_,h3,rfl⟩
            · exact h.1 e he,by rw [List.map_cons,List.flatten_cons,h.2];rfl⟩
          generalize wQ (chF c b).1 r=x at ih
          cases x with
          |more o n=>obtain⟨k,l,g1,g2⟩:=ih;exact⟨k,_,hb l o g1,by rw [g2];simp⟩
          |bad o e rest=>obtain⟨k,l,g1,g2⟩:=ih;exact⟨k,_,hb l o g1,by rw [g2];simp⟩
          |over o rest=>obtain⟨k,l,g1,g2⟩:=ih;exact⟨k,_,hb l o g1,by rw [g2];simp⟩
    · rw [if_pos h1,if_pos h1]
      exact⟨(chF c b).1,[],Yi,by rw [rM rfl];simp⟩
def CG (q q':Rq) (g:List Evt × Bool):Prop:=zD q'.out=zD q.out++g.1∧xH q'=g.2∧decide (q'.pos=4)=Vs g.1
theorem uD (l:List Evt) (e:Evt):Vs (l++[e])=decide (e.kind=4):=by simp [Vs]
theorem zaf {l:List Evt} {e:Evt} (h:e.kind≠4) (m:List Evt):Vs (l++[e]++m)=Vs m:=by
  rcases List.eq_nil_or_concat m with rfl|⟨z,x,rfl⟩
  · rw [List.append_nil,uD];simp [Vs,h]
  · rw [List.concat_eq_append,← List.append_assoc,uD,uD]
theorem zjZ {q q1 q':Rq} {x:List Evt} {e:Evt} {g:List Evt × Bool} (h:zD q1.out=zD q.out++(x++[e])) (k:e.kind≠4) (c:CG q1 q' g):CG q q' (preG (x++[e]) g):=by
  obtain⟨c1,c2,c3⟩:=c
  refine⟨by rw [c1,h];simp [preG],c2,?_⟩
  rw [c3]
  exact(zaf k g.1).symm
theorem uX {q q1:Rq} {e:Int} {x:List Evt} (h:zD q1.out=zD q.out++x):CG q (zX q1 e) (x++[evF e],false):=by
  refine⟨?_,?_,?_⟩
  · show zD (q1.out++[evF e])=_
    rw [XM (by simp [evF]),h];simp
  · simp [xH,zX]
  · rw [uD];rfl
theorem zdM (o:Str):Vs (bodE o)=false:=by unfold bodE;split<;>rfl
theorem zf4 (x:List Evt) (o:Str) {e:Evt} (h:e.kind≠4):Vs (x++[e]++bodE o)=false:=by rw [zaf h,zdM]
theorem U7 (a b:List Evt) (g:List Evt × Bool):preG a (preG b g)=preG (a++b) g:=by simp [preG]
theorem zgf {q q1:Rq} {h:Hd} {o:Str} (hj:zD q1.out=zD q.out++([evH h]++bodE o)) (hp:q1.pos=2∨q1.pos=3):CG q q1 (preG [evH h] (bodE o,true)):=by
  refine⟨hj,?_,?_⟩
  · unfold xH
    rw [decide_eq_true (show q1.pos≠4 by omega),decide_eq_true (show q1.pos≠0 by omega)];rfl
  · rw [decide_eq_false (by omega)]
    exact(zf4 [] o (e:=evH h) (by simp [evH])).symm
theorem qN: ∀ (f:Nat) (r:Str) (q:Rq),r.length<f→q.ln=ln0→N2 (zD q.out)→(q.pos=0→CG q (yE q r) (reqG f none r))∧(q.pos=1→CG q (yE q r) (reqG f (some q.h) r))
  |0,r,q,h,_,_=>absurd h (Nat.not_lt_zero _)
  | f + 1, r, q,hf,hl,hn=>by
    have hq: { q with ln:=ln0}=q:=by rw [← hl]
    have hrest: ∀ {t rest:Str},xA ln0 r=.line t rest→rest.length<f:=fun h=>by
      obtain⟨n,-,h2,h3,h4⟩:=WY h
      rw [h4,List.length_drop];omega
    refine⟨fun hp=> ?_,fun hp=> ?_⟩
    · have hr :=Yz (q:=q) (.inl hp) r ln0 rfl
      rw [hq] at hr
      have hi:=TJ r
      rw [reqG]
      cases hx:xA ln0 r with
      | more s=>
        rw [hx] at hr hi
        simp only at hr ⊢
        rw [hr]
        refine⟨by simp,?_,?_⟩
        · have:=hi.2.2
          simp only [xH,hp]
          simp only [ne_eq,not_true_eq_false,or_false] at this
          by_cases hz:r=[]<;>simp_all
        · simp [hp,Vs]
      | bad e rest=>
        rw [hx] at hr
        obtain⟨l',hr⟩:=hr
        rw [hr]
        exact uX (x:=[]) (by simp)
      | line t rest=>
        rw [hx] at hr
        simp only at hr ⊢
        rw [hr]
        have hrl:=hrest hx
        unfold zG
        simp only [hp,if_true]
        by_cases ht:t=[]
        · rw [if_pos ht,if_pos ht]
          simp only [ne_eq,not_true_eq_false,if_false]
          exact(qN f rest q hrl hl hn).1 hp
        · rw [if_neg ht,if_neg ht]
          by_cases hb:(begM t).1=0
          · rw [if_pos hb,if_neg (show ¬ (begM t).1≠0 by simp [hb])]
            simp only [ne_eq,not_true_eq_false,if_false]
            exact(qN f rest { q with h:=(begM t).2,pos:=1} hrl hl hn).2 rfl
          · rw [if_neg hb,if_pos hb]
            by_cases h11:(begM t).1=11
            · rw [if_pos h11,h11]
              exact uX (x:=[]) (by simp)
            · rw [if_neg h11]
              simp only [ne_eq,hb,not_false_eq_true,if_true]
              exact uX (x:=[]) (by simp)
    · have hr :=Yz (q:=q) (.inr hp) r ln0 rfl
      rw [hq] at hr
      rw [reqG]
      cases hx:xA ln0 r with
      | more s=>
        rw [hx] at hr
        simp only at hr ⊢
        rw [hr]
        refine⟨by simp,?_,?_⟩
        · simp [xH,hp]
        · simp [hp,Vs]
      | bad e rest=>
        rw [hx] at hr
        obtain⟨l',hr⟩:=hr
        rw [hr]
        exact uX (x:=[]) (by simp)
      | line t rest=>
        rw [hx] at hr
        simp only at hr ⊢
        rw [hr]
        have hrl:=hrest hx
        unfold zG
        rw [if_neg (show ¬ q.pos=0 by omega)]
        by_cases ht:t=[]
        · rw [if_pos ht,if_pos ht]
          have hH: ∀ h:Hd,zD (q.out++[evH h])=zD q.out++[evH h]:=fun h=>XM (by simp [evH]) _
          have hN: ∀ h:Hd,N2 (zD (q.out++[evH h])):=fun h=>by rw [hH];exact zfo (by simp [evH])
          have hB: ∀ (h:Hd) (l:List Evt) (o:Str),Bods l o→zD (q.out++[evH h]++l)=zD q.out++([evH h]++bodE o):=fun h l o hb=>by
            rw [zdE (hN h) l o hb,hH];simp
          have hend: ∀ (Q:Rq) (r2:Str) (x:List Evt),Q.ln=ln0→r2.length<f→zD Q.out=zD q.out++x→CG q (yE (yP Q) r2) (preG (x++[evE]) (reqG f none r2)):=fun Q r2 x hQ h2 hx=>by
            have hj:zD (Q.out++[evE])=zD q.out++(x++[evE]):=by rw [XM (by simp [evE]),hx];simp
            exact zjZ (q1:=yP Q) (e:=evE) hj (by simp [evE]) ((qN f r2 (yP Q) h2 hQ (by show N2 (zD (Q.out++[evE]));rw [XM (by simp [evE])];exact zfo (by simp [evE]))).1 rfl)
          unfold zV lenH
          by_cases h1:za1 q.h.minor q.h.fields=true
          · rw [if_pos h1,if_pos h1]
            simp only [ne_eq,show ¬ (13:Int)=0 by decide,not_false_eq_true,if_true]
            exact uX (x:=[]) (by simp)
          rw [if_neg h1,if_neg h1]
          by_cases h2:(lenM q.h.minor q.h.fields).2≠0
          · rw [if_pos h2,if_pos h2,if_pos h2]
            exact uX (x:=[]) (by simp)
          rw [if_neg h2,if_neg h2]
          have hle:=TL q.h.minor q.h.fields
          generalize(lenM q.h.minor q.h.fields).1=n at *
          by_cases h3:n=0
          · subst h3
            rw [if_pos rfl]
            simp only [ne_eq,not_true_eq_false,if_false,Int.toNat_zero,List.take_zero,List.drop_zero]
            rw [if_pos (show(0:Int)≤0 by decide),if_pos (show(0:Int)≤(rest.length:Int) by omega),U7,← List.append_assoc]
            have hb:=hB { q.h with length:=0} [] [] Yi
            rw [List.append_nil] at hb
            exact hend _ rest _ hl hrl hb
          rw [if_neg h3]
          by_cases h4:0<n
          · rw [if_pos h4]
            simp only [ne_eq,not_true_eq_false,if_false]
            rw [if_pos (show 0≤n by omega)]
            obtain⟨l,hb,hd⟩:=VW rest ({ ln:=q.ln,pos:=2,h:= { method:=q.h.method,target:=q.h.target,minor:=q.h.minor,fields:=q.h.fields,length:=n},left:=n,ck:=q.ck,own:=false,out:=q.out++[evH { q.h with length:=n}]}:Rq) (n.toNat - 1) rfl (by show n=_;omega)
            rw [show n.toNat - 1+1=n.toNat by omega] at hb hd
            rw [hd]
            by_cases h5:rest.length<n.toNat
            · rw [if_pos h5,if_neg (by omega)]
              rw [List.take_of_length_le (by omega)] at hb
              exact zgf (hB _ l _ hb) (.inl rfl)
            · rw [if_neg h5,if_pos (by omega),U7,← List.append_assoc]
              exact hend _ _ _ hl (by rw [List.length_drop];omega) (hB _ l _ hb)
          rw [if_neg h4]
          simp only [ne_eq,not_true_eq_false,if_false]
          rw [if_neg (show ¬ 0≤n by omega)]
          have hc:=U4 rest ({ ln:=q.ln,pos:=3,h:= { method:=q.h.method,target:=q.h.target,minor:=q.h.minor,fields:=q.h.fields,length:=n},left:=q.left,ck:=some ch0,own:=false,out:=q.out++[evH { q.h with length:=n}]}:Rq) ch0 rfl rfl
          have hrc:=Yw rest
          have hro: ∀ o rest2,wQ ch0 rest=.over o rest2→rest2.length<rest.length:=fun o r2 h=>Zl h
          rw [hrc] at hc hro
          cases hcr:xZ rest with
          | more o k=>
            rw [hcr] at hc
            obtain⟨k,l,hb,hd⟩:=hc
            rw [hd]
            exact zgf (hB _ l _ hb) (.inr rfl)
          | bad o e r2=>
            rw [hcr] at hc
            obtain⟨k,l,hb,hd⟩:=hc
            rw [hd]
            simp only [preG]
            rw [← List.append_assoc]
            exact uX (hB _ l _ hb)
          | over o r2=>
            rw [hcr] at hc hro
            obtain⟨k,l,hb,hd⟩:=hc
            rw [hd]
            simp only
            rw [U7,← List.append_assoc]
            exact hend _ r2 _ hl (by have:=hro o r2 rfl;omega) (hB _ l _ hb)
        · rw [if_neg ht,if_neg ht]
          by_cases h16:q.h.fields.length=16
          · rw [if_pos h16,if_pos h16]
            simp only [ne_eq,show ¬ (8:Int)=0 by decide,not_false_eq_true,if_true]
            exact uX (x:=[]) (by simp)
          · rw [if_neg h16,if_neg h16]
            by_cases hb:(zW t).2=0
            · rw [if_neg (show ¬ (zW t).2≠0 by simp [hb]),if_neg (show ¬ (zW t).2≠0 by simp [hb])]
              exact(qN f rest { q with h:= { q.h with fields:=q.h.fields++[(zW t).1]}} hrl hl hn).2 hp
            · rw [if_pos hb,if_pos hb]
              exact uX (x:=[]) (by simp)
theorem zeX (b:Str):zD (zF rq0 b).out=(reqG (b.length+1) none b).1∧xH (zF rq0 b)=(reqG (b.length+1) none b).2∧decide ((zF rq0 b).pos=4)=Vs (reqG (b.length+1) none b).1:=by
  have h:=(qN (b.length+1) b rq0 (Nat.lt_succ_self _) rfl zfp).1 rfl
  obtain⟨h1,h2,h3⟩:=h
  exact⟨h1,h2,h3⟩
end Go.Proofs.YtmibhbdfigpkmaaGreatDoor
namespace Go.Proofs.YtmibhbdfigpkmaaGreatDoor
open Go Go.Sep Go.Ab
set_option maxRecDepth 100000
theorem Q8 {l m:List Fld} {i:Nat} (h1:i<l.length) (h2:i<m.length):(decide (l.drop i=m.drop i))=(decide (l.getD i ⟨[],[]⟩=m.getD i ⟨[],[]⟩)&&decide (l.drop (i+1)=m.drop (i+1))):=by
  have e1:l.getD i ⟨[],[]⟩=l[i]:=by simp [h1]
  have e2:m.getD i ⟨[],[]⟩=m[i]:=by simp [h2]
  rw [e1,e2,Bool.eq_iff_iff,Bool.and_eq_true,decide_eq_true_iff,decide_eq_true_iff,decide_eq_true_iff,List.drop_eq_getElem_cons h1,List.drop_eq_getElem_cons h2,List.cons.injEq]
theorem ziR {x y:Fld} (h1:x.name=y.name) (h2:x.value=y.value):x=y:=by cases x;cases y;simp_all
theorem zjg (l m:List Fld) (hneed:l.length≤140737488355328∧m.length≤140737488355328):Spc Tryz.prog 57 [.v (.one (.p (.list .fld l))),.v (.one (.p (.list .fld m)))] [] (.ret (.v (.one (.p (.bool ((decide (l=m)))))))) []:=by
  obtain⟨hl,hm⟩:=hneed
  generalize hr:decide (l=m)=r
  refine spcG zu mixed Tryz.func57 (by kernel_rfl) { keep:=some [0,1,4,5]} [] (by kernel_rfl) ?_
  intro I X hI hX
  refine zh (.br (I.bnot (I.ieq (I.len (α:=Fld) l) (I.len (α:=Fld) m))) (.fin (.ret (.v (.one (.p (.bool Bool.false))))) []) (.code 0 [1,1,0,1,0] ⟨[(5,(.v (.one (.p (.int .i64 0))))),(4,(.v (.one (.p (.val (.bool .false)))))),(0,(.v (.one (.p (.list .fld l))))),(1,(.v (.one (.p (.list .fld m)))))],[],26,none⟩)) (by kernel_rfl) ?_
  simp only [zC]
  refine⟨fun c1=> ?_,fun c1=> ?_⟩
  · subst hI
    simp only [nrmA,nrmB] at c1
    simp only [nrmA,nrmB]
    rw [← hr]
    exact(decide_eq_false fun e=>c1 (by rw [e])).symm
  have hlm:l.length=m.length:=by
    subst hI
    simp only [nrmA,nrmB] at c1
    omega
  refine yw hI zu mixed [] hX [0,1,5] (fun(i:Nat)=>i≤l.length∧r=decide (l.drop i=m.drop i)) (fun(i:Nat)=>⟨[(0,.v (.one (.p (.list .fld l)))),(1,.v (.one (.p (.list .fld m)))),(5,.v (.one (.p (.int .i64 i))))],[],26,none⟩) (fun(i:Nat)=>l.length - i) 0 (by kernel_rfl) (by kernel_rfl) ?_ ?_
  · exact⟨Nat.zero_le _,hr.symm⟩
  rintro i ⟨h1,h2⟩ A hA
  refine zh (let y0:=I.get (α:=Fld) l (Fld.mk ([]:Str) ([]:Str)) (Nat.cast i);let y1:=I.get (α:=Fld) m (Fld.mk ([]:Str) ([]:Str)) (Nat.cast i);let y2:=I.inb (Nat.cast i) (I.len (α:=Fld) l);let y3:=I.inb (Nat.cast i) (I.len (α:=Fld) m);.br (I.ilt (Nat.cast i) (I.len (α:=Fld) l)) (.need y2 (.need y2 (.need y3 (.need y3 (.br (I.bnot (I.ban (I.seq (Fld.name y0) (Fld.name y1)) (I.seq (Fld.value y0) (Fld.value y1)))) (.fin (.ret (.v (.one (.p (.bool Bool.false))))) []) (.need (I.inr Go.IntKind.i64 (I.add (Nat.cast i) 1)) (.need (A ⟨[(0,(.v (.one (.p (.list .fld l))))),(1,(.v (.one (.p (.list .fld m))))),(5,(.v (.one (.p (.int .i64 (I.add (Nat.cast i) 1))))))],[],26,none⟩) .qed))))))) (.fin (.ret (.v (.one (.p (.bool Bool.true))))) [])) (by kernel_rfl) ?_
  simp only [zC]
  subst hI
  simp only [nrmA,nrmB,nrlB,reduceCtorEq]
  have hd:i<l.length→_:=fun h=>Q8 (l:=l) (m:=m) (i:=i) h (by omega)
  have hend: ¬ i<l.length→r=true:=fun h=>by
    rw [h2,List.drop_of_length_le (by omega),List.drop_of_length_le (by omega)];simp
  generalize l.getD i ⟨[],[]⟩=x at *
  generalize m.getD i ⟨[],[]⟩=y at *
  have hx: ¬ x=y→i<l.length→r=false:=fun h hi=>by rw [h2,hd hi,decide_eq_false h,Bool.false_and]
  have hy:x=y→i<l.length→r=decide (l.drop (i+1)=m.drop (i+1)):=fun h hi=>by rw [h2,hd hi,decide_eq_true h,Bool.true_and]
  (repeat' (first|refine And.intro ?_ ?_|intro _))<;>first|omega|exact True.intro|exact False.elim ‹False›|skip
  all_goals first
    |omega
    |(exact(hx (by rintro rfl;simp_all) (by omega)).symm)
    |(rw [hx (by rintro rfl;simp_all) (by omega)])
    |exact hA (i+1) ⟨by omega,hy (ziR (by simp_all) (by simp_all)) (by omega)⟩ (by omega)
    |(rw [hend (by omega)])
def Xw (I:Alg) (args:List D) (hp:List HO):Option CT:=match args,hp with
  |[.v (.one (.p (.list .fld l))),.v (.one (.p (.list .fld m)))],[]=>(fun(l m:List Fld)=>(some (.one ⟨I.hid (l.length≤140737488355328∧m.length≤140737488355328),(.ret (.v (.one (.p (.bool (I.hid ((decide (l=m))))))))),[]⟩):Option CT)) l m
  |_,_=>none
theorem zbI:zI Tryz.prog 57 (Xw alg):=by
  intro args hp r h
  unfold Xw at h
  split at h
  · cases h;exact fun hn=>zjg _ _ hn
  · cases h
def zgR:Know Tryz.prog:=⟨57,Xw,zbI⟩
def zgQ:Know Tryz.prog:=⟨57,fun I=>zK I (Xw I),zf zbI⟩
end Go.Proofs.YtmibhbdfigpkmaaGreatDoor
namespace Go.Proofs.YtmibhbdfigpkmaaGreatDoor
open Go Go.Sep Go.Ab
set_option maxRecDepth 100000
end Go.Proofs.YtmibhbdfigpkmaaGreatDoor
namespace Go.Proofs.YtmibhbdfigpkmaaGreatDoor
open Go Go.Sep Go.Ab
set_option maxRecDepth 100000
theorem zan {b o r:Str} {e:Int} (h:xZ b=.bad o e r):e≠0:=by
  have h1:=Yw b
  rw [h] at h1
  exact(Y2 h1).2
theorem Y1: ∀ {r:Str} {s:Ch} {o rest:Str},wQ s r=.over o rest→∃ n,n≤r.length∧rest=r.drop n
  |[],s,o,rest,h=>by cases h
  | c ::r,s,o,rest,h=>by
    rw [wQ] at h
    split at h
    · cases h
    split at h
    · cases h;exact⟨1,by simp,rfl⟩
    · obtain⟨p,h1,_⟩:=ChR.zb2 h
      obtain⟨n,h2,h3⟩:=Y1 h1
      exact⟨n+1,by rw [List.length_cons];omega,by rw [h3];rfl⟩
theorem zam {b o r:Str} (h:xZ b=.over o r):b.drop (zgH b (xZ b)).toNat=r:=by
  have h1:=Yw b
  rw [h] at h1 ⊢
  obtain⟨n,h2,h3⟩:=Y1 h1
  have:(zgH b (.over o r)).toNat=n:=by rw [zgH,h3,List.length_drop];omega
  rw [this,h3]
end Go.Proofs.YtmibhbdfigpkmaaGreatDoor
namespace Go.Proofs.YtmibhbdfigpkmaaGreatDoor
open Go Go.Sep Go.Ab
set_option maxRecDepth 100000
theorem Qe (f:Nat) (r:Str):reqG (f+1) none r=
    if(zB r).2.2.2≠0 then([evF (zB r).2.2.2],false)
    else if(zB r).2.2.1=false then([],decide (r≠[]))
    else if(zB r).1=[] then reqG f none (r.drop (zB r).2.1.toNat)
    else if(firM (zB r).1).2≠0 then([evF (firM (zB r).1).2],false)
    else reqG f (some (firM (zB r).1).1) (r.drop (zB r).2.1.toNat):=by
  rw [reqG]
  cases hr:xA ln0 r with
  |more x=>rw [TI hr];simp
  | line t rest=>
    obtain⟨n,h1,h2,h3,rfl⟩:=WY hr
    rw [h1]
    obtain⟨e1,e2⟩:=zho t
    simp only [ne_eq,not_true_eq_false,if_false,Bool.true_eq_false,Int.toNat_natCast,e1]
    by_cases ht:t=[]
    · rw [if_pos ht,if_pos ht]
    rw [if_neg ht,if_neg ht]
    by_cases hb:(begM t).1=0
    · simp only [hb,not_true_eq_false,if_false,e2 hb]
    · simp only [hb,not_false_eq_true,if_true]
  |bad e rest=>obtain⟨n,h1,h2,h3,h4,rfl⟩:=zch hr;rw [h1];simp [h2]
def reqH (f:Nat) (h:Hd) (rest:Str):List Evt × Bool:=
  if(ZQ h.minor h.fields).2≠0 then([evF (ZQ h.minor h.fields).2],false)
  else if 0≤(ZQ h.minor h.fields).1 then
    (if(ZQ h.minor h.fields).1≤rest.length then preG ([evH { h with length:=(ZQ h.minor h.fields).1}]++bodE (rest.take (ZQ h.minor h.fields).1.toNat)++[evE]) (reqG f none (rest.drop (ZQ h.minor h.fields).1.toNat))
    else([evH { h with length:=(ZQ h.minor h.fields).1}]++bodE rest,true))
  else if zf7 (xZ rest)≠0 then([evH { h with length:=(ZQ h.minor h.fields).1}]++bodE (outR (xZ rest))++[evF (zf7 (xZ rest))],false)
  else if isR (xZ rest)=false then([evH { h with length:=(ZQ h.minor h.fields).1}]++bodE (outR (xZ rest)),true)
  else preG ([evH { h with length:=(ZQ h.minor h.fields).1}]++bodE (outR (xZ rest))++[evE]) (reqG f none (rest.drop (zgH rest (xZ rest)).toNat))
theorem Wy (f:Nat) (h:Hd) (r:Str):reqG (f+1) (some h) r=
    if(zB r).2.2.2≠0 then([evF (zB r).2.2.2],false)
    else if(zB r).2.2.1=false then([],true)
    else if(zB r).1=[] then reqH f h (r.drop (zB r).2.1.toNat)
    else if h.fields.length=16 then([evF 8],false)
    else if(zW (zB r).1).2≠0 then([evF (zW (zB r).1).2],false)
    else reqG f (some { h with fields:=h.fields++[(zW (zB r).1).1]}) (r.drop (zB r).2.1.toNat):=by
  rw [reqG]
  cases hr:xA ln0 r with
  |more x=>rw [TI hr];simp
  | line t rest=>
    obtain⟨n,h1,h2,h3,rfl⟩:=WY hr
    rw [h1]
    simp only [ne_eq,not_true_eq_false,if_false,Bool.true_eq_false,Int.toNat_natCast]
    by_cases ht:t=[]
    · rw [if_pos ht,if_pos ht]
      unfold reqH
      rw [zhf]
      generalize r.drop n=rest
      split
      · rfl
      split
      · split
        · simp [preG]
        · rfl
      · cases hc:xZ rest with
        |more o k=>simp [zf7,isR,outR,preG]
        | bad o e r2=>
          have:=zan hc
          simp [zf7,outR,preG,this]
        | over o r2=>
          have hd:=zam hc
          rw [hc] at hd
          simp [zf7,isR,outR,preG,hd]
    · rw [if_neg ht,if_neg ht]
  |bad e rest=>obtain⟨n,h1,h2,h3,h4,rfl⟩:=zch hr;rw [h1];simp [h2]
end Go.Proofs.YtmibhbdfigpkmaaGreatDoor
namespace Go.Proofs.YtmibhbdfigpkmaaGreatDoor
open Go Go.Sep Go.Ab
set_option maxRecDepth 100000
def rqFs (q:Rq):Prop:=FsOk q.h.fields∧q.out.length≤9000000
theorem zeJ (ln:Ln) (p:Int) (m tg:Str) (hm:Int) (hf:List Fld) (hl le:Int) (out:List Evt) (hneed:xh ⟨ln,p,⟨m,tg,hm,hf,hl⟩,le,none,true,out⟩∧rqFs ⟨ln,p,⟨m,tg,hm,hf,hl⟩,le,none,true,out⟩):Spc Tryz.prog 71 [.v (.one (.ptr 0 0))] [.abs (.rq ⟨ln,p,⟨m,tg,hm,hf,hl⟩,le,none,true,out⟩)] (.ret (.v (.one (.p (.int .i64 ((zV ⟨ln,p,⟨m,tg,hm,hf,hl⟩,le,none,true,out⟩).2)))))) [.abs (.rq (((zV ⟨ln,p,⟨m,tg,hm,hf,hl⟩,le,none,true,out⟩).1)))]:=by
  obtain⟨-,hfs,hfw⟩:=hneed
  simp only at hfs hfw
  obtain⟨hf1,hf2⟩:=hfs
  generalize hr:zV ⟨ln,p,⟨m,tg,hm,hf,hl⟩,le,none,true,out⟩=r
  obtain⟨rq,rc⟩:=r
  have hhl:uQ.length≤1000000:=by decide
  refine spcG zu mixed Tryz.func71 (by kernel_rfl) { cfgQ with fz:=[45],keep:=some [0,2,4,5]} [YQ,YP,zcP,zcO,zT,zS,zZ,zY,yj,yh,yB,yA,xC,xB,rX,rW,zbT,zbS] (by kernel_rfl) ?_
  intro I X hI hX
  refine zh (let y1:=I.hid (α:=Int) (Prod.fst (lenM hm hf));let y0:=I.hid (α:=(List Go.Ab.Evt)) (HAppend.hAppend out ([(Go.Ab.Evt.mk (1:Int) (Hd.mk m tg hm hf y1) ([]:Str) (Go.Ab.Prt.mk ([]:Str) ([]:Str) ([]:Str) ([]:Str)) (0:Int))]:List Go.Ab.Evt));let y2:=I.hid (α:=Go.Ab.Rq) (yP (Go.Ab.Rq.mk (Go.Ab.Ln.mk (Go.Ab.Ln.b ln) (Go.Ab.Ln.cr ln) (Go.Ab.Ln.code ln)) p (Hd.mk m tg hm hf y1) le (Option.none) Bool.false y0));let y3:=I.hid (α:=(Prop)) (zA (Go.Ab.Rq.mk (Go.Ab.Ln.mk (Go.Ab.Ln.b ln) (Go.Ab.Ln.cr ln) (Go.Ab.Ln.code ln)) p (Hd.mk m tg hm hf y1) le (Option.none) Bool.false out));let y4:=I.hid (α:=(Prop)) (zA (Go.Ab.Rq.mk (Go.Ab.Ln.mk (Go.Ab.Ln.b ln) (Go.Ab.Ln.cr ln) (Go.Ab.Ln.code ln)) p (Hd.mk m tg hm hf y1) le (Option.none) Bool.false y0));let y5:=I.hid (α:=Int) (Prod.snd (lenM hm hf));let y6:=I.hid (α:=Int) (Prod.snd (oneF (valsF hf ([104,111,115,116]:Str))));.need (I.hid (α:=(Prop)) (And (LE.le (List.length hf) 1000) (And (LE.le (List.length ([104,111,115,116]:Str)) 1000000) (∀ (f:Fld),f ∈ hf→List.length f.name≤1000000∧List.length f.value≤1000000)))) (.br (I.ieq y6 9) (.fin (.ret (.v (.one (.p (.int .i64 13))))) [(.abs (.rq (Go.Ab.Rq.mk (Go.Ab.Ln.mk (Go.Ab.Ln.b ln) (Go.Ab.Ln.cr ln) (Go.Ab.Ln.code ln)) p (Hd.mk m tg hm hf hl) le (Option.none) Bool.true out)))]) (.br (I.ieq y6 10) (.br (I.ieq hm 1) (.fin (.ret (.v (.one (.p (.int .i64 13))))) [(.abs (.rq (Go.Ab.Rq.mk (Go.Ab.Ln.mk (Go.Ab.Ln.b ln) (Go.Ab.Ln.cr ln) (Go.Ab.Ln.code ln)) p (Hd.mk m tg hm hf hl) le (Option.none) Bool.true out)))]) (.need (I.hid (α:=(Prop)) (FsOk hf)) (.br (I.bnot (I.ieq y5 0)) (.fin (.ret (.v (.one (.p (.int .i64 y5))))) [(.abs (.rq (Go.Ab.Rq.mk (Go.Ab.Ln.mk (Go.Ab.Ln.b ln) (Go.Ab.Ln.cr ln) (Go.Ab.Ln.code ln)) p (Hd.mk m tg hm hf hl) le (Option.none) Bool.false out)))]) (.need y3 (.br (I.ieq y1 0) (.need y4 (.fin (.ret (.v (.one (.p (.int .i64 0))))) [(.abs (.rq y2))])) (.br (I.ilt 0 y1) (.fin (.ret (.v (.one (.p (.int .i64 0))))) [(.abs (.rq (Go.Ab.Rq.mk (Go.Ab.Ln.mk (Go.Ab.Ln.b ln) (Go.Ab.Ln.cr ln) (Go.Ab.Ln.code ln)) (2:Int) (Hd.mk m tg hm hf y1) y1 (Option.none) Bool.false y0)))]) (.need (I.hid (α:=(Prop)) True) (.fin (.ret (.v (.one (.p (.int .i64 0))))) [(.abs (.rq (Go.Ab.Rq.mk (Go.Ab.Ln.mk (Go.Ab.Ln.b ln) (Go.Ab.Ln.cr ln) (Go.Ab.Ln.code ln)) (3:Int) (Hd.mk m tg hm hf y1) le (Option.some (Go.Ab.Ch.mk (Go.Ab.Ln.mk (I.hid (α:=Str) ([]:Str)) Bool.false (0:Int)) (0:Int) (0:Int) (0:Int) (0:Int) (0:Int))) Bool.false y0)))])))))))) (.need (I.hid (α:=(Prop)) (FsOk hf)) (.br (I.bnot (I.ieq y5 0)) (.fin (.ret (.v (.one (.p (.int .i64 y5))))) [(.abs (.rq (Go.Ab.Rq.mk (Go.Ab.Ln.mk (Go.Ab.Ln.b ln) (Go.Ab.Ln.cr ln) (Go.Ab.Ln.code ln)) p (Hd.mk m tg hm hf hl) le (Option.none) Bool.false out)))]) (.need y3 (.br (I.ieq y1 0) (.need y4 (.fin (.ret (.v (.one (.p (.int .i64 0))))) [(.abs (.rq y2))])) (.br (I.ilt 0 y1) (.fin (.ret (.v (.one (.p (.int .i64 0))))) [(.abs (.rq (Go.Ab.Rq.mk (Go.Ab.Ln.mk (Go.Ab.Ln.b ln) (Go.Ab.Ln.cr ln) (Go.Ab.Ln.code ln)) (2:Int) (Hd.mk m tg hm hf y1) y1 (Option.none) Bool.false y0)))]) (.need (I.hid (α:=(Prop)) True) (.fin (.ret (.v (.one (.p (.int .i64 0))))) [(.abs (.rq (Go.Ab.Rq.mk (Go.Ab.Ln.mk (Go.Ab.Ln.b ln) (Go.Ab.Ln.cr ln) (Go.Ab.Ln.code ln)) (3:Int) (Hd.mk m tg hm hf y1) le (Option.some (Go.Ab.Ch.mk (Go.Ab.Ln.mk (I.hid (α:=Str) ([]:Str)) Bool.false (0:Int)) (0:Int) (0:Int) (0:Int) (0:Int) (0:Int))) Bool.false y0)))])))))))))) (by kernel_rfl) ?_
  simp only [zC]
  subst hI
  unfold zV za1 at hr
  simp only at hr
  rw [show([104,111,115,116]:Str)=uQ from rfl]
  simp only [nrmA,nrmB,nrlB,reduceCtorEq,HO.abs.injEq,Gh.rq.injEq,Rq.mk.injEq]
  have hln:=TL hm hf
  generalize oneF (valsF hf uQ)=oc at *
  obtain⟨ov,oc⟩:=oc
  simp only at hr ⊢
  generalize lenM hm hf=z at *
  obtain⟨zn,zc⟩:=z
  simp only at hr hln ⊢
  by_cases q1:(decide (oc=9)||decide (oc=10)&&decide (hm=1))=true
  · rw [if_pos q1] at hr
    simp only [Prod.mk.injEq] at hr
    obtain⟨rfl,rfl⟩:=hr
    simp only [Bool.or_eq_true,Bool.and_eq_true,decide_eq_true_eq] at q1
    (repeat' (first|refine And.intro ?_ ?_|intro _))<;>first|omega|exact True.intro|exact False.elim ‹False›|skip
    all_goals first|omega|rfl|exact hf1|exact⟨hf1,hf2⟩|(exact(hf2 _ ‹_›).1)|(exact(hf2 _ ‹_›).2)|(unfold zA;simp only;omega)|trace_state
  rw [if_neg q1] at hr
  simp only [Bool.or_eq_true,Bool.and_eq_true,decide_eq_true_eq] at q1
  by_cases q2:zc=0
  · rw [if_neg (fun h=>h q2)] at hr
    by_cases q3:zn=0
    · rw [if_pos q3] at hr
      simp only [Prod.mk.injEq] at hr
      obtain⟨rfl,rfl⟩:=hr
      subst q3
      (repeat' (first|refine And.intro ?_ ?_|intro _))<;>first|omega|exact True.intro|exact False.elim ‹False›|skip
      all_goals first|omega|rfl|exact hf1|exact⟨hf1,hf2⟩|(exact(hf2 _ ‹_›).1)|(exact(hf2 _ ‹_›).2)|(unfold zA;simp;omega)|trace_state
    rw [if_neg q3] at hr
    by_cases q4:0<zn
    · rw [if_pos q4] at hr
      simp only [Prod.mk.injEq] at hr
      obtain⟨rfl,rfl⟩:=hr
      (repeat' (first|refine And.intro ?_ ?_|intro _))<;>first|omega|exact True.intro|exact False.elim ‹False›|skip
      all_goals first|omega|rfl|exact hf1|exact⟨hf1,hf2⟩|(exact(hf2 _ ‹_›).1)|(exact(hf2 _ ‹_›).2)|(unfold zA;simp;omega)|trace_state
    · rw [if_neg q4] at hr
      simp only [Prod.mk.injEq] at hr
      obtain⟨rfl,rfl⟩:=hr
      (repeat' (first|refine And.intro ?_ ?_|intro _))<;>first|omega|exact True.intro|exact False.elim ‹False›|skip
      all_goals first|omega|rfl|exact hf1|exact⟨hf1,hf2⟩|(exact(hf2 _ ‹_›).1)|(exact(hf2 _ ‹_›).2)|(unfold zA;simp;omega)|trace_state
  · rw [if_pos q2] at hr
    simp only [Prod.mk.injEq] at hr
    obtain⟨rfl,rfl⟩:=hr
    (repeat' (first|refine And.intro ?_ ?_|intro _))<;>first|omega|exact True.intro|exact False.elim ‹False›|skip
    all_goals first|omega|rfl|exact hf1|exact⟨hf1,hf2⟩|(exact(hf2 _ ‹_›).1)|(exact(hf2 _ ‹_›).2)|(unfold zA;simp only;omega)|trace_state
theorem zeK (ln:Ln) (p:Int) (m tg:Str) (hm:Int) (hf:List Fld) (hl le:Int) (out:List Evt) (hneed:xh ⟨ln,p,⟨m,tg,hm,hf,hl⟩,le,none,false,out⟩∧rqFs ⟨ln,p,⟨m,tg,hm,hf,hl⟩,le,none,false,out⟩):Spc Tryz.prog 71 [.v (.one (.ptr 0 0))] [.abs (.rq ⟨ln,p,⟨m,tg,hm,hf,hl⟩,le,none,false,out⟩)] (.ret (.v (.one (.p (.int .i64 ((zV ⟨ln,p,⟨m,tg,hm,hf,hl⟩,le,none,false,out⟩).2)))))) [.abs (.rq (((zV ⟨ln,p,⟨m,tg,hm,hf,hl⟩,le,none,false,out⟩).1)))]:=by
  exact absurd hneed.1 (fun h=>by unfold xh at h;cases h)
theorem zeH (ln:Ln) (p:Int) (m tg:Str) (hm:Int) (hf:List Fld) (hl le:Int) (ch:Ch) (out:List Evt) (hneed:xh ⟨ln,p,⟨m,tg,hm,hf,hl⟩,le,some ch,true,out⟩∧rqFs ⟨ln,p,⟨m,tg,hm,hf,hl⟩,le,some ch,true,out⟩):Spc Tryz.prog 71 [.v (.one (.ptr 0 0))] [.abs (.rq ⟨ln,p,⟨m,tg,hm,hf,hl⟩,le,some ch,true,out⟩)] (.ret (.v (.one (.p (.int .i64 ((zV ⟨ln,p,⟨m,tg,hm,hf,hl⟩,le,some ch,true,out⟩).2)))))) [.abs (.rq (((zV ⟨ln,p,⟨m,tg,hm,hf,hl⟩,le,some ch,true,out⟩).1)))]:=by
  obtain⟨-,hfs,hfw⟩:=hneed
  simp only at hfs hfw
  obtain⟨hf1,hf2⟩:=hfs
  generalize hr:zV ⟨ln,p,⟨m,tg,hm,hf,hl⟩,le,some ch,true,out⟩=r
  obtain⟨rq,rc⟩:=r
  have hhl:uQ.length≤1000000:=by decide
  refine spcG zu mixed Tryz.func71 (by kernel_rfl) { cfgQ with fz:=[45],keep:=some [0,2,4,5]} [YQ,YP,zcP,zcO,zT,zS,zZ,zY,yj,yh,yB,yA,xC,xB,rX,rW,zbT,zbS] (by kernel_rfl) ?_
  intro I X hI hX
  refine zh (let y1:=I.hid (α:=Int) (Prod.fst (lenM hm hf));let y0:=I.hid (α:=(List Go.Ab.Evt)) (HAppend.hAppend out ([(Go.Ab.Evt.mk (1:Int) (Hd.mk m tg hm hf y1) ([]:Str) (Go.Ab.Prt.mk ([]:Str) ([]:Str) ([]:Str) ([]:Str)) (0:Int))]:List Go.Ab.Evt));let y2:=I.hid (α:=Go.Ab.Rq) (yP (Go.Ab.Rq.mk (Go.Ab.Ln.mk (Go.Ab.Ln.b ln) (Go.Ab.Ln.cr ln) (Go.Ab.Ln.code ln)) p (Hd.mk m tg hm hf y1) le (Option.some (Go.Ab.Ch.mk (Go.Ab.Ln.mk (Go.Ab.Ln.b (Go.Ab.Ch.ln ch)) (Go.Ab.Ln.cr (Go.Ab.Ch.ln ch)) (Go.Ab.Ln.code (Go.Ab.Ch.ln ch))) (Go.Ab.Ch.pos ch) (Go.Ab.Ch.left ch) (Go.Ab.Ch.all ch) (Go.Ab.Ch.tails ch) (Go.Ab.Ch.code ch))) Bool.false y0));let y3:=I.hid (α:=(Prop)) (zA (Go.Ab.Rq.mk (Go.Ab.Ln.mk (Go.Ab.Ln.b ln) (Go.Ab.Ln.cr ln) (Go.Ab.Ln.code ln)) p (Hd.mk m tg hm hf y1) le (Option.some (Go.Ab.Ch.mk (Go.Ab.Ln.mk (Go.Ab.Ln.b (Go.Ab.Ch.ln ch)) (Go.Ab.Ln.cr (Go.Ab.Ch.ln ch)) (Go.Ab.Ln.code (Go.Ab.Ch.ln ch))) (Go.Ab.Ch.pos ch) (Go.Ab.Ch.left ch) (Go.Ab.Ch.all ch) (Go.Ab.Ch.tails ch) (Go.Ab.Ch.code ch))) Bool.false out));let y4:=I.hid (α:=(Prop)) (zA (Go.Ab.Rq.mk (Go.Ab.Ln.mk (Go.Ab.Ln.b ln) (Go.Ab.Ln.cr ln) (Go.Ab.Ln.code ln)) p (Hd.mk m tg hm hf y1) le (Option.some (Go.Ab.Ch.mk (Go.Ab.Ln.mk (Go.Ab.Ln.b (Go.Ab.Ch.ln ch)) (Go.Ab.Ln.cr (Go.Ab.Ch.ln ch)) (Go.Ab.Ln.code (Go.Ab.Ch.ln ch))) (Go.Ab.Ch.pos ch) (Go.Ab.Ch.left ch) (Go.Ab.Ch.all ch) (Go.Ab.Ch.tails ch) (Go.Ab.Ch.code ch))) Bool.false y0));let y5:=I.hid (α:=Int) (Prod.snd (lenM hm hf));let y6:=I.hid (α:=Int) (Prod.snd (oneF (valsF hf ([104,111,115,116]:Str))));.need (I.hid (α:=(Prop)) (And (LE.le (List.length hf) 1000) (And (LE.le (List.length ([104,111,115,116]:Str)) 1000000) (∀ (f:Fld),f ∈ hf→List.length f.name≤1000000∧List.length f.value≤1000000)))) (.br (I.ieq y6 9) (.fin (.ret (.v (.one (.p (.int .i64 13))))) [(.abs (.rq (Go.Ab.Rq.mk (Go.Ab.Ln.mk (Go.Ab.Ln.b ln) (Go.Ab.Ln.cr ln) (Go.Ab.Ln.code ln)) p (Hd.mk m tg hm hf hl) le (Option.some (Go.Ab.Ch.mk (Go.Ab.Ln.mk (Go.Ab.Ln.b (Go.Ab.Ch.ln ch)) (Go.Ab.Ln.cr (Go.Ab.Ch.ln ch)) (Go.Ab.Ln.code (Go.Ab.Ch.ln ch))) (Go.Ab.Ch.pos ch) (Go.Ab.Ch.left ch) (Go.Ab.Ch.all ch) (Go.Ab.Ch.tails ch) (Go.Ab.Ch.code ch))) Bool.true out)))]) (.br (I.ieq y6 10) (.br (I.ieq hm 1) (.fin (.ret (.v (.one (.p (.int .i64 13))))) [(.abs (.rq (Go.Ab.Rq.mk (Go.Ab.Ln.mk (Go.Ab.Ln.b ln) (Go.Ab.Ln.cr ln) (Go.Ab.Ln.code ln)) p (Hd.mk m tg hm hf hl) le (Option.some (Go.Ab.Ch.mk (Go.Ab.Ln.mk (Go.Ab.Ln.b (Go.Ab.Ch.ln ch)) (Go.Ab.Ln.cr (Go.Ab.Ch.ln ch)) (Go.Ab.Ln.code (Go.Ab.Ch.ln ch))) (Go.Ab.Ch.pos ch) (Go.Ab.Ch.left ch) (Go.Ab.Ch.all ch) (Go.Ab.Ch.tails ch) (Go.Ab.Ch.code ch))) Bool.true out)))]) (.need (I.hid (α:=(Prop)) (FsOk hf)) (.br (I.bnot (I.ieq y5 0)) (.fin (.ret (.v (.one (.p (.int .i64 y5))))) [(.abs (.rq (Go.Ab.Rq.mk (Go.Ab.Ln.mk (Go.Ab.Ln.b ln) (Go.Ab.Ln.cr ln) (Go.Ab.Ln.code ln)) p (Hd.mk m tg hm hf hl) le (Option.some (Go.Ab.Ch.mk (Go.Ab.Ln.mk (Go.Ab.Ln.b (Go.Ab.Ch.ln ch)) (Go.Ab.Ln.cr (Go.Ab.Ch.ln ch)) (Go.Ab.Ln.code (Go.Ab.Ch.ln ch))) (Go.Ab.Ch.pos ch) (Go.Ab.Ch.left ch) (Go.Ab.Ch.all ch) (Go.Ab.Ch.tails ch) (Go.Ab.Ch.code ch))) Bool.false out)))]) (.need y3 (.br (I.ieq y1 0) (.need y4 (.fin (.ret (.v (.one (.p (.int .i64 0))))) [(.abs (.rq y2))])) (.br (I.ilt 0 y1) (.fin (.ret (.v (.one (.p (.int .i64 0))))) [(.abs (.rq (Go.Ab.Rq.mk (Go.Ab.Ln.mk (Go.Ab.Ln.b ln) (Go.Ab.Ln.cr ln) (Go.Ab.Ln.code ln)) (2:Int) (Hd.mk m tg hm hf y1) y1 (Option.some (Go.Ab.Ch.mk (Go.Ab.Ln.mk (Go.Ab.Ln.b (Go.Ab.Ch.ln ch)) (Go.Ab.Ln.cr (Go.Ab.Ch.ln ch)) (Go.Ab.Ln.code (Go.Ab.Ch.ln ch))) (Go.Ab.Ch.pos ch) (Go.Ab.Ch.left ch) (Go.Ab.Ch.all ch) (Go.Ab.Ch.tails ch) (Go.Ab.Ch.code ch))) Bool.false y0)))]) (.need (I.hid (α:=(Prop)) True) (.fin (.ret (.v (.one (.p (.int .i64 0))))) [(.abs (.rq (Go.Ab.Rq.mk (Go.Ab.Ln.mk (Go.Ab.Ln.b ln) (Go.Ab.Ln.cr ln) (Go.Ab.Ln.code ln)) (3:Int) (Hd.mk m tg hm hf y1) le (Option.some (Go.Ab.Ch.mk (Go.Ab.Ln.mk (I.hid (α:=Str) ([]:Str)) Bool.false (0:Int)) (0:Int) (0:Int) (0:Int) (0:Int) (0:Int))) Bool.false y0)))])))))))) (.need (I.hid (α:=(Prop)) (FsOk hf)) (.br (I.bnot (I.ieq y5 0)) (.fin (.ret (.v (.one (.p (.int .i64 y5))))) [(.abs (.rq (Go.Ab.Rq.mk (Go.Ab.Ln.mk (Go.Ab.Ln.b ln) (Go.Ab.Ln.cr ln) (Go.Ab.Ln.code ln)) p (Hd.mk m tg hm hf hl) le (Option.some (Go.Ab.Ch.mk (Go.Ab.Ln.mk (Go.Ab.Ln.b (Go.Ab.Ch.ln ch)) (Go.Ab.Ln.cr (Go.Ab.Ch.ln ch)) (Go.Ab.Ln.code (Go.Ab.Ch.ln ch))) (Go.Ab.Ch.pos ch) (Go.Ab.Ch.left ch) (Go.Ab.Ch.all ch) (Go.Ab.Ch.tails ch) (Go.Ab.Ch.code ch))) Bool.false out)))]) (.need y3 (.br (I.ieq y1 0) (.need y4 (.fin (.ret (.v (.one (.p (.int .i64 0))))) [(.abs (.rq y2))])) (.br (I.ilt 0 y1) (.fin (.ret (.v (.one (.p (.int .i64 0))))) [(.abs (.rq (Go.Ab.Rq.mk (Go.Ab.Ln.mk (Go.Ab.Ln.b ln) (Go.Ab.Ln.cr ln) (Go.Ab.Ln.code ln)) (2:Int) (Hd.mk m tg hm hf y1) y1 (Option.some (Go.Ab.Ch.mk (Go.Ab.Ln.mk (Go.Ab.Ln.b (Go.Ab.Ch.ln ch)) (Go.Ab.Ln.cr (Go.Ab.Ch.ln ch)) (Go.Ab.Ln.code (Go.Ab.Ch.ln ch))) (Go.Ab.Ch.pos ch) (Go.Ab.Ch.left ch) (Go.Ab.Ch.all ch) (Go.Ab.Ch.tails ch) (Go.Ab.Ch.code ch))) Bool.false y0)))]) (.need (I.hid (α:=(Prop)) True) (.fin (.ret (.v (.one (.p (.int .i64 0))))) [(.abs (.rq (Go.Ab.Rq.mk (Go.Ab.Ln.mk (Go.Ab.Ln.b ln) (Go.Ab.Ln.cr ln) (Go.Ab.Ln.code ln)) (3:Int) (Hd.mk m tg hm hf y1) le (Option.some (Go.Ab.Ch.mk (Go.Ab.Ln.mk (I.hid (α:=Str) ([]:Str)) Bool.false (0:Int)) (0:Int) (0:Int) (0:Int) (0:Int) (0:Int))) Bool.false y0)))])))))))))) (by kernel_rfl) ?_
  simp only [zC]
  subst hI
  unfold zV za1 at hr
  simp only at hr
  rw [show([104,111,115,116]:Str)=uQ from rfl]
  simp only [nrmA,nrmB,nrlB,reduceCtorEq,HO.abs.injEq,Gh.rq.injEq,Rq.mk.injEq]
  have hln:=TL hm hf
  generalize oneF (valsF hf uQ)=oc at *
  obtain⟨ov,oc⟩:=oc
  simp only at hr ⊢
  generalize lenM hm hf=z at *
  obtain⟨zn,zc⟩:=z
  simp only at hr hln ⊢
  by_cases q1:(decide (oc=9)||decide (oc=10)&&decide (hm=1))=true
  · rw [if_pos q1] at hr
    simp only [Prod.mk.injEq] at hr
    obtain⟨rfl,rfl⟩:=hr
    simp only [Bool.or_eq_true,Bool.and_eq_true,decide_eq_true_eq] at q1
    (repeat' (first|refine And.intro ?_ ?_|intro _))<;>first|omega|exact True.intro|exact False.elim ‹False›|skip
    all_goals first|omega|rfl|exact hf1|exact⟨hf1,hf2⟩|(exact(hf2 _ ‹_›).1)|(exact(hf2 _ ‹_›).2)|(unfold zA;simp only;omega)|trace_state
  rw [if_neg q1] at hr
  simp only [Bool.or_eq_true,Bool.and_eq_true,decide_eq_true_eq] at q1
  by_cases q2:zc=0
  · rw [if_neg (fun h=>h q2)] at hr
    by_cases q3:zn=0
    · rw [if_pos q3] at hr
      simp only [Prod.mk.injEq] at hr
      obtain⟨rfl,rfl⟩:=hr
      subst q3
      (repeat' (first|refine And.intro ?_ ?_|intro _))<;>first|omega|exact True.intro|exact False.elim ‹False›|skip
      all_goals first|omega|rfl|exact hf1|exact⟨hf1,hf2⟩|(exact(hf2 _ ‹_›).1)|(exact(hf2 _ ‹_›).2)|(unfold zA;simp;omega)|trace_state
    rw [if_neg q3] at hr
    by_cases q4:0<zn
    · rw [if_pos q4] at hr
      simp only [Prod.mk.injEq] at hr
      obtain⟨rfl,rfl⟩:=hr
      (repeat' (first|refine And.intro ?_ ?_|intro _))<;>first|omega|exact True.intro|exact False.elim ‹False›|skip
      all_goals first|omega|rfl|exact hf1|exact⟨hf1,hf2⟩|(exact(hf2 _ ‹_›).1)|(exact(hf2 _ ‹_›).2)|(unfold zA;simp;omega)|trace_state
    · rw [if_neg q4] at hr
      simp only [Prod.mk.injEq] at hr
      obtain⟨rfl,rfl⟩:=hr
      (repeat' (first|refine And.intro ?_ ?_|intro _))<;>first|omega|exact True.intro|exact False.elim ‹False›|skip
      all_goals first|omega|rfl|exact hf1|exact⟨hf1,hf2⟩|(exact(hf2 _ ‹_›).1)|(exact(hf2 _ ‹_›).2)|(unfold zA;simp;omega)|trace_state
  · rw [if_pos q2] at hr
    simp only [Prod.mk.injEq] at hr
    obtain⟨rfl,rfl⟩:=hr
    (repeat' (first|refine And.intro ?_ ?_|intro _))<;>first|omega|exact True.intro|exact False.elim ‹False›|skip
    all_goals first|omega|rfl|exact hf1|exact⟨hf1,hf2⟩|(exact(hf2 _ ‹_›).1)|(exact(hf2 _ ‹_›).2)|(unfold zA;simp only;omega)|trace_state
theorem zeI (ln:Ln) (p:Int) (m tg:Str) (hm:Int) (hf:List Fld) (hl le:Int) (ch:Ch) (out:List Evt) (hneed:xh ⟨ln,p,⟨m,tg,hm,hf,hl⟩,le,some ch,false,out⟩∧rqFs ⟨ln,p,⟨m,tg,hm,hf,hl⟩,le,some ch,false,out⟩):Spc Tryz.prog 71 [.v (.one (.ptr 0 0))] [.abs (.rq ⟨ln,p,⟨m,tg,hm,hf,hl⟩,le,some ch,false,out⟩)] (.ret (.v (.one (.p (.int .i64 ((zV ⟨ln,p,⟨m,tg,hm,hf,hl⟩,le,some ch,false,out⟩).2)))))) [.abs (.rq (((zV ⟨ln,p,⟨m,tg,hm,hf,hl⟩,le,some ch,false,out⟩).1)))]:=by
  exact absurd hneed.1 (fun h=>by unfold xh at h;cases h)
theorem zik (q:Rq) (hneed:xh q∧rqFs q):Spc Tryz.prog 71 [.v (.one (.ptr 0 0))] [.abs (.rq q)] (.ret (.v (.one (.p (.int .i64 ((zV q).2)))))) [.abs (.rq (((zV q).1)))]:=by
  obtain⟨ln,p,⟨m,tg,hm,hf,hl⟩,le,ck,own,out⟩:=q
  cases ck with
  | none=>cases own with
    |true=>exact zeJ ln p m tg hm hf hl le out hneed
    |false=>exact zeK ln p m tg hm hf hl le out hneed
  | some ch=>cases own with
    |true=>exact zeH ln p m tg hm hf hl le ch out hneed
    |false=>exact zeI ln p m tg hm hf hl le ch out hneed
def Zx (I:Alg) (args:List D) (hp:List HO):Option CT:=match args,hp with
  |[.v (.one (.ptr 0 0))],[.abs (.rq q)]=>(fun(q:Rq)=>(some (.one ⟨I.hid (xh q∧rqFs q),(.ret (.v (.one (.p (.int .i64 (I.hid ((zV q).2))))))),[.abs (.rq (I.hid (((zV q).1))))]⟩):Option CT)) q
  |_,_=>none
theorem Qa:zI Tryz.prog 71 (Zx alg):=by
  intro args hp r h
  unfold Zx at h
  split at h
  · cases h;exact fun hn=>zik _ hn
  · cases h
def RZ:Know Tryz.prog:=⟨71,Zx,Qa⟩
def RY:Know Tryz.prog:=⟨71,fun I=>zK I (Zx I),zf Qa⟩
theorem zew (ln:Ln) (p:Int) (m tg:Str) (hm:Int) (hf:List Fld) (hl le:Int) (out:List Evt) (s:Str) (hneed:xh ⟨ln,p,⟨m,tg,hm,hf,hl⟩,le,none,true,out⟩∧rqFs ⟨ln,p,⟨m,tg,hm,hf,hl⟩,le,none,true,out⟩∧s.length≤1000000):Spc Tryz.prog 50 [.v (.one (.ptr 0 0)),.v (.one (.p (.str s)))] [.abs (.rq ⟨ln,p,⟨m,tg,hm,hf,hl⟩,le,none,true,out⟩)] (.ret (.v (.one (.p (.int .i64 ((zG ⟨ln,p,⟨m,tg,hm,hf,hl⟩,le,none,true,out⟩ s).2)))))) [.abs (.rq (((zG ⟨ln,p,⟨m,tg,hm,hf,hl⟩,le,none,true,out⟩ s).1)))]:=by
  obtain⟨-,hfs,hs⟩:=hneed
  have hfs0:=hfs
  obtain⟨hfs,hfw⟩:=hfs
  simp only at hfs hfw
  obtain⟨hf1,hf2⟩:=hfs
  generalize hr:zG ⟨ln,p,⟨m,tg,hm,hf,hl⟩,le,none,true,out⟩ s=r
  obtain⟨rq,rc⟩:=r
  refine spcG zu mixed Tryz.func50 (by kernel_rfl) { cfgQ with seam:=[],keep:=some [0,1,4,5,6]} [U9,U8,zbX,zbW,RZ,RY] (by kernel_rfl) ?_
  intro I X hI hX
  refine zh (let y2:=I.hid (α:=Str) (Fld.name (Prod.fst (zW s)));let y1:=I.hid (α:=Str) (Fld.value (Prod.fst (zW s)));let y0:=I.few (I.add (I.len (α:=Fld) hf) (I.len (α:=Fld) ([(Fld.mk y2 y1)]:List Fld))) 100000000;let y3:=I.hid (α:=Int) (Prod.snd (zW s));.br (I.ieq p 0) (.br (I.seq s ([]:Str)) (.fin (.ret (.v (.one (.p (.int .i64 0))))) [(.abs (.rq (Go.Ab.Rq.mk (Go.Ab.Ln.mk (Go.Ab.Ln.b ln) (Go.Ab.Ln.cr ln) (Go.Ab.Ln.code ln)) p (Hd.mk m tg hm hf hl) le (Option.none) Bool.true out)))]) (.need (I.hid (α:=(Prop)) (And (xh (Go.Ab.Rq.mk (Go.Ab.Ln.mk (Go.Ab.Ln.b ln) (Go.Ab.Ln.cr ln) (Go.Ab.Ln.code ln)) p (Hd.mk m tg hm hf hl) le (Option.none) Bool.true out)) (LE.le (List.length s) 1000000))) (.fin (.ret (.v (.one (.p (.int .i64 (I.hid (α:=Int) (Prod.fst (begM s)))))))) [(.abs (.rq (I.hid (α:=Go.Ab.Rq) (xX (Go.Ab.Rq.mk (Go.Ab.Ln.mk (Go.Ab.Ln.b ln) (Go.Ab.Ln.cr ln) (Go.Ab.Ln.code ln)) p (Hd.mk m tg hm hf hl) le (Option.none) Bool.true out) s))))]))) (.br (I.seq s ([]:Str)) (.need (I.hid (α:=(Prop)) (And (xh (Go.Ab.Rq.mk (Go.Ab.Ln.mk (Go.Ab.Ln.b ln) (Go.Ab.Ln.cr ln) (Go.Ab.Ln.code ln)) p (Hd.mk m tg hm hf hl) le (Option.none) Bool.true out)) (rqFs (Go.Ab.Rq.mk (Go.Ab.Ln.mk (Go.Ab.Ln.b ln) (Go.Ab.Ln.cr ln) (Go.Ab.Ln.code ln)) p (Hd.mk m tg hm hf hl) le (Option.none) Bool.true out)))) (.fin (.ret (.v (.one (.p (.int .i64 (I.hid (α:=Int) (Prod.snd (zV (Go.Ab.Rq.mk (Go.Ab.Ln.mk (Go.Ab.Ln.b ln) (Go.Ab.Ln.cr ln) (Go.Ab.Ln.code ln)) p (Hd.mk m tg hm hf hl) le (Option.none) Bool.true out))))))))) [(.abs (.rq (I.hid (α:=Go.Ab.Rq) (Prod.fst (zV (Go.Ab.Rq.mk (Go.Ab.Ln.mk (Go.Ab.Ln.b ln) (Go.Ab.Ln.cr ln) (Go.Ab.Ln.code ln)) p (Hd.mk m tg hm hf hl) le (Option.none) Bool.true out))))))])) (.br (I.ieq (I.len (α:=Fld) hf) 16) (.fin (.ret (.v (.one (.p (.int .i64 8))))) [(.abs (.rq (Go.Ab.Rq.mk (Go.Ab.Ln.mk (Go.Ab.Ln.b ln) (Go.Ab.Ln.cr ln) (Go.Ab.Ln.code ln)) p (Hd.mk m tg hm hf hl) le (Option.none) Bool.true out)))]) (.need (I.hid (α:=(Prop)) (LE.le (List.length s) 1000000)) (.both (.need y0 (.fin (.ret (.v (.one (.p (.int .i64 y3))))) [(.abs (.rq (Go.Ab.Rq.mk (Go.Ab.Ln.mk (Go.Ab.Ln.b ln) (Go.Ab.Ln.cr ln) (Go.Ab.Ln.code ln)) p (Hd.mk m tg hm (I.app (α:=Fld) hf ([(Fld.mk y2 y1)]:List Fld)) hl) le (Option.none) Bool.true out)))])) (.need y0 (.fin (.ret (.v (.one (.p (.int .i64 y3))))) [(.abs (.rq (Go.Ab.Rq.mk (Go.Ab.Ln.mk (Go.Ab.Ln.b ln) (Go.Ab.Ln.cr ln) (Go.Ab.Ln.code ln)) p (Hd.mk m tg hm (I.app (α:=Fld) hf ([(Fld.mk y2 y1)]:List Fld)) hl) le (Option.none) Bool.true out)))]))))))) (by kernel_rfl) ?_
  simp only [zC]
  subst hI
  unfold zG at hr
  simp only at hr
  simp only [nrmA,nrmB,nrlB,reduceCtorEq,HO.abs.injEq,Gh.rq.injEq,Rq.mk.injEq]
  have hdn:(zV ⟨ln,p,⟨m,tg,hm,hf,hl⟩,le,none,true,out⟩)=zV ⟨ln,p,⟨m,tg,hm,hf,hl⟩,le,none,true,out⟩:=rfl
  by_cases q1:p=0
  · rw [if_pos q1] at hr
    by_cases q2:s=[]
    · rw [if_pos q2] at hr
      simp only [Prod.mk.injEq] at hr
      obtain⟨rfl,rfl⟩:=hr
      (repeat' (first|refine And.intro ?_ ?_|intro _))<;>first|omega|exact True.intro|exact False.elim ‹False›|skip
      all_goals first|omega|rfl|(exfalso;exact ‹¬ s=[]› q2)|trace_state
    rw [if_neg q2] at hr
    have hbg:(xX ⟨ln,p,⟨m,tg,hm,hf,hl⟩,le,none,true,out⟩ s,(begM s).1)=(rq,rc):=by
      rw [← hr]
      unfold xX
      by_cases c0:(begM s).1=0
      · rw [if_pos c0,if_pos c0,c0]
      · rw [if_neg c0,if_neg c0]
        by_cases c1:(begM s).1=11
        · rw [if_pos c1,if_pos c1,c1]
        · rw [if_neg c1,if_neg c1]
    simp only [Prod.mk.injEq] at hbg
    (repeat' (first|refine And.intro ?_ ?_|intro _))<;>first|omega|exact True.intro|exact False.elim ‹False›|skip
    all_goals first|omega|exact hbg.1|exact hbg.2|exact⟨rfl,hs⟩|rfl|(exfalso;exact q2 ‹s=[]›)|(simp only [xh];done)|exact hs|trace_state
  · rw [if_neg q1] at hr
    by_cases q2:s=[]
    · rw [if_pos q2] at hr
      (repeat' (first|refine And.intro ?_ ?_|intro _))<;>first|omega|exact True.intro|exact False.elim ‹False›|skip
      all_goals first|omega|(rw [hr];done)|(rw [hr])|rfl|exact hfs0|exact hf1|(exact(hf2 _ ‹_›).1)|(exact(hf2 _ ‹_›).2)|(exfalso;exact ‹¬ s=[]› q2)|trace_state
    rw [if_neg q2] at hr
    by_cases q3:hf.length=16
    · rw [if_pos q3] at hr
      simp only [Prod.mk.injEq] at hr
      obtain⟨rfl,rfl⟩:=hr
      (repeat' (first|refine And.intro ?_ ?_|intro _))<;>first|omega|exact True.intro|exact False.elim ‹False›|skip
      all_goals first|omega|rfl|(exfalso;exact q2 ‹s=[]›)|trace_state
    · rw [if_neg q3] at hr
      simp only [Prod.mk.injEq] at hr
      obtain⟨rfl,rfl⟩:=hr
      (repeat' (first|refine And.intro ?_ ?_|intro _))<;>first|omega|exact True.intro|exact False.elim ‹False›|skip
      all_goals first|omega|rfl|exact hs|(simp only [List.length_cons,List.length_nil];omega)|(exfalso;exact q2 ‹s=[]›)|trace_state
theorem zex (ln:Ln) (p:Int) (m tg:Str) (hm:Int) (hf:List Fld) (hl le:Int) (out:List Evt) (s:Str) (hneed:xh ⟨ln,p,⟨m,tg,hm,hf,hl⟩,le,none,false,out⟩∧rqFs ⟨ln,p,⟨m,tg,hm,hf,hl⟩,le,none,false,out⟩∧s.length≤1000000):Spc Tryz.prog 50 [.v (.one (.ptr 0 0)),.v (.one (.p (.str s)))] [.abs (.rq ⟨ln,p,⟨m,tg,hm,hf,hl⟩,le,none,false,out⟩)] (.ret (.v (.one (.p (.int .i64 ((zG ⟨ln,p,⟨m,tg,hm,hf,hl⟩,le,none,false,out⟩ s).2)))))) [.abs (.rq (((zG ⟨ln,p,⟨m,tg,hm,hf,hl⟩,le,none,false,out⟩ s).1)))]:=by
  exact absurd hneed.1 (fun h=>by unfold xh at h;cases h)
theorem zeu (ln:Ln) (p:Int) (m tg:Str) (hm:Int) (hf:List Fld) (hl le:Int) (ch:Ch) (out:List Evt) (s:Str) (hneed:xh ⟨ln,p,⟨m,tg,hm,hf,hl⟩,le,some ch,true,out⟩∧rqFs ⟨ln,p,⟨m,tg,hm,hf,hl⟩,le,some ch,true,out⟩∧s.length≤1000000):Spc Tryz.prog 50 [.v (.one (.ptr 0 0)),.v (.one (.p (.str s)))] [.abs (.rq ⟨ln,p,⟨m,tg,hm,hf,hl⟩,le,some ch,true,out⟩)] (.ret (.v (.one (.p (.int .i64 ((zG ⟨ln,p,⟨m,tg,hm,hf,hl⟩,le,some ch,true,out⟩ s).2)))))) [.abs (.rq (((zG ⟨ln,p,⟨m,tg,hm,hf,hl⟩,le,some ch,true,out⟩ s).1)))]:=by
  obtain⟨-,hfs,hs⟩:=hneed
  have hfs0:=hfs
  obtain⟨hfs,hfw⟩:=hfs
  simp only at hfs hfw
  obtain⟨hf1,hf2⟩:=hfs
  generalize hr:zG ⟨ln,p,⟨m,tg,hm,hf,hl⟩,le,some ch,true,out⟩ s=r
  obtain⟨rq,rc⟩:=r
  refine spcG zu mixed Tryz.func50 (by kernel_rfl) { cfgQ with seam:=[],keep:=some [0,1,4,5,6]} [U9,U8,zbX,zbW,RZ,RY] (by kernel_rfl) ?_
  intro I X hI hX
  refine zh (let y2:=I.hid (α:=Str) (Fld.name (Prod.fst (zW s)));let y1:=I.hid (α:=Str) (Fld.value (Prod.fst (zW s)));let y0:=I.few (I.add (I.len (α:=Fld) hf) (I.len (α:=Fld) ([(Fld.mk y2 y1)]:List Fld))) 100000000;let y3:=I.hid (α:=Int) (Prod.snd (zW s));.br (I.ieq p 0) (.br (I.seq s ([]:Str)) (.fin (.ret (.v (.one (.p (.int .i64 0))))) [(.abs (.rq (Go.Ab.Rq.mk (Go.Ab.Ln.mk (Go.Ab.Ln.b ln) (Go.Ab.Ln.cr ln) (Go.Ab.Ln.code ln)) p (Hd.mk m tg hm hf hl) le (Option.some (Go.Ab.Ch.mk (Go.Ab.Ln.mk (Go.Ab.Ln.b (Go.Ab.Ch.ln ch)) (Go.Ab.Ln.cr (Go.Ab.Ch.ln ch)) (Go.Ab.Ln.code (Go.Ab.Ch.ln ch))) (Go.Ab.Ch.pos ch) (Go.Ab.Ch.left ch) (Go.Ab.Ch.all ch) (Go.Ab.Ch.tails ch) (Go.Ab.Ch.code ch))) Bool.true out)))]) (.need (I.hid (α:=(Prop)) (And (xh (Go.Ab.Rq.mk (Go.Ab.Ln.mk (Go.Ab.Ln.b ln) (Go.Ab.Ln.cr ln) (Go.Ab.Ln.code ln)) p (Hd.mk m tg hm hf hl) le (Option.some (Go.Ab.Ch.mk (Go.Ab.Ln.mk (Go.Ab.Ln.b (Go.Ab.Ch.ln ch)) (Go.Ab.Ln.cr (Go.Ab.Ch.ln ch)) (Go.Ab.Ln.code (Go.Ab.Ch.ln ch))) (Go.Ab.Ch.pos ch) (Go.Ab.Ch.left ch) (Go.Ab.Ch.all ch) (Go.Ab.Ch.tails ch) (Go.Ab.Ch.code ch))) Bool.true out)) (LE.le (List.length s) 1000000))) (.fin (.ret (.v (.one (.p (.int .i64 (I.hid (α:=Int) (Prod.fst (begM s)))))))) [(.abs (.rq (I.hid (α:=Go.Ab.Rq) (xX (Go.Ab.Rq.mk (Go.Ab.Ln.mk (Go.Ab.Ln.b ln) (Go.Ab.Ln.cr ln) (Go.Ab.Ln.code ln)) p (Hd.mk m tg hm hf hl) le (Option.some (Go.Ab.Ch.mk (Go.Ab.Ln.mk (Go.Ab.Ln.b (Go.Ab.Ch.ln ch)) (Go.Ab.Ln.cr (Go.Ab.Ch.ln ch)) (Go.Ab.Ln.code (Go.Ab.Ch.ln ch))) (Go.Ab.Ch.pos ch) (Go.Ab.Ch.left ch) (Go.Ab.Ch.all ch) (Go.Ab.Ch.tails ch) (Go.Ab.Ch.code ch))) Bool.true out) s))))]))) (.br (I.seq s ([]:Str)) (.need (I.hid (α:=(Prop)) (And (xh (Go.Ab.Rq.mk (Go.Ab.Ln.mk (Go.Ab.Ln.b ln) (Go.Ab.Ln.cr ln) (Go.Ab.Ln.code ln)) p (Hd.mk m tg hm hf hl) le (Option.some (Go.Ab.Ch.mk (Go.Ab.Ln.mk (Go.Ab.Ln.b (Go.Ab.Ch.ln ch)) (Go.Ab.Ln.cr (Go.Ab.Ch.ln ch)) (Go.Ab.Ln.code (Go.Ab.Ch.ln ch))) (Go.Ab.Ch.pos ch) (Go.Ab.Ch.left ch) (Go.Ab.Ch.all ch) (Go.Ab.Ch.tails ch) (Go.Ab.Ch.code ch))) Bool.true out)) (rqFs (Go.Ab.Rq.mk (Go.Ab.Ln.mk (Go.Ab.Ln.b ln) (Go.Ab.Ln.cr ln) (Go.Ab.Ln.code ln)) p (Hd.mk m tg hm hf hl) le (Option.some (Go.Ab.Ch.mk (Go.Ab.Ln.mk (Go.Ab.Ln.b (Go.Ab.Ch.ln ch)) (Go.Ab.Ln.cr (Go.Ab.Ch.ln ch)) (Go.Ab.Ln.code (Go.Ab.Ch.ln ch))) (Go.Ab.Ch.pos ch) (Go.Ab.Ch.left ch) (Go.Ab.Ch.all ch) (Go.Ab.Ch.tails ch) (Go.Ab.Ch.code ch))) Bool.true out)))) (.fin (.ret (.v (.one (.p (.int .i64 (I.hid (α:=Int) (Prod.snd (zV (Go.Ab.Rq.mk (Go.Ab.Ln.mk (Go.Ab.Ln.b ln) (Go.Ab.Ln.cr ln) (Go.Ab.Ln.code ln)) p (Hd.mk m tg hm hf hl) le (Option.some (Go.Ab.Ch.mk (Go.Ab.Ln.mk (Go.Ab.Ln.b (Go.Ab.Ch.ln ch)) (Go.Ab.Ln.cr (Go.Ab.Ch.ln ch)) (Go.Ab.Ln.code (Go.Ab.Ch.ln ch))) (Go.Ab.Ch.pos ch) (Go.Ab.Ch.left ch) (Go.Ab.Ch.all ch) (Go.Ab.Ch.tails ch) (Go.Ab.Ch.code ch))) Bool.true out))))))))) [(.abs (.rq (I.hid (α:=Go.Ab.Rq) (Prod.fst (zV (Go.Ab.Rq.mk (Go.Ab.Ln.mk (Go.Ab.Ln.b ln) (Go.Ab.Ln.cr ln) (Go.Ab.Ln.code ln)) p (Hd.mk m tg hm hf hl) le (Option.some (Go.Ab.Ch.mk (Go.Ab.Ln.mk (Go.Ab.Ln.b (Go.Ab.Ch.ln ch)) (Go.Ab.Ln.cr (Go.Ab.Ch.ln ch)) (Go.Ab.Ln.code (Go.Ab.Ch.ln ch))) (Go.Ab.Ch.pos ch) (Go.Ab.Ch.left ch) (Go.Ab.Ch.all ch) (Go.Ab.Ch.tails ch) (Go.Ab.Ch.code ch))) Bool.true out))))))])) (.br (I.ieq (I.len (α:=Fld) hf) 16) (.fin (.ret (.v (.one (.p (.int .i64 8))))) [(.abs (.rq (Go.Ab.Rq.mk (Go.Ab.Ln.mk (Go.Ab.Ln.b ln) (Go.Ab.Ln.cr ln) (Go.Ab.Ln.code ln)) p (Hd.mk m tg hm hf hl) le (Option.some (Go.Ab.Ch.mk (Go.Ab.Ln.mk (Go.Ab.Ln.b (Go.Ab.Ch.ln ch)) (Go.Ab.Ln.cr (Go.Ab.Ch.ln ch)) (Go.Ab.Ln.code (Go.Ab.Ch.ln ch))) (Go.Ab.Ch.pos ch) (Go.Ab.Ch.left ch) (Go.Ab.Ch.all ch) (Go.Ab.Ch.tails ch) (Go.Ab.Ch.code ch))) Bool.true out)))]) (.need (I.hid (α:=(Prop)) (LE.le (List.length s) 1000000)) (.both (.need y0 (.fin (.ret (.v (.one (.p (.int .i64 y3))))) [(.abs (.rq (Go.Ab.Rq.mk (Go.Ab.Ln.mk (Go.Ab.Ln.b ln) (Go.Ab.Ln.cr ln) (Go.Ab.Ln.code ln)) p (Hd.mk m tg hm (I.app (α:=Fld) hf ([(Fld.mk y2 y1)]:List Fld)) hl) le (Option.some (Go.Ab.Ch.mk (Go.Ab.Ln.mk (Go.Ab.Ln.b (Go.Ab.Ch.ln ch)) (Go.Ab.Ln.cr (Go.Ab.Ch.ln ch)) (Go.Ab.Ln.code (Go.Ab.Ch.ln ch))) (Go.Ab.Ch.pos ch) (Go.Ab.Ch.left ch) (Go.Ab.Ch.all ch) (Go.Ab.Ch.tails ch) (Go.Ab.Ch.code ch))) Bool.true out)))])) (.need y0 (.fin (.ret (.v (.one (.p (.int .i64 y3))))) [(.abs (.rq (Go.Ab.Rq.mk (Go.Ab.Ln.mk (Go.Ab.Ln.b ln) (Go.Ab.Ln.cr ln) (Go.Ab.Ln.code ln)) p (Hd.mk m tg hm (I.app (α:=Fld) hf ([(Fld.mk y2 y1)]:List Fld)) hl) le (Option.some (Go.Ab.Ch.mk (Go.Ab.Ln.mk (Go.Ab.Ln.b (Go.Ab.Ch.ln ch)) (Go.Ab.Ln.cr (Go.Ab.Ch.ln ch)) (Go.Ab.Ln.code (Go.Ab.Ch.ln ch))) (Go.Ab.Ch.pos ch) (Go.Ab.Ch.left ch) (Go.Ab.Ch.all ch) (Go.Ab.Ch.tails ch) (Go.Ab.Ch.code ch))) Bool.true out)))]))))))) (by kernel_rfl) ?_
  simp only [zC]
  subst hI
  unfold zG at hr
  simp only at hr
  simp only [nrmA,nrmB,nrlB,reduceCtorEq,HO.abs.injEq,Gh.rq.injEq,Rq.mk.injEq]
  have hdn:(zV ⟨ln,p,⟨m,tg,hm,hf,hl⟩,le,some ch,true,out⟩)=zV ⟨ln,p,⟨m,tg,hm,hf,hl⟩,le,some ch,true,out⟩:=rfl
  by_cases q1:p=0
  · rw [if_pos q1] at hr
    by_cases q2:s=[]
    · rw [if_pos q2] at hr
      simp only [Prod.mk.injEq] at hr
      obtain⟨rfl,rfl⟩:=hr
      (repeat' (first|refine And.intro ?_ ?_|intro _))<;>first|omega|exact True.intro|exact False.elim ‹False›|skip
      all_goals first|omega|rfl|(exfalso;exact ‹¬ s=[]› q2)|trace_state
    rw [if_neg q2] at hr
    have hbg:(xX ⟨ln,p,⟨m,tg,hm,hf,hl⟩,le,some ch,true,out⟩ s,(begM s).1)=(rq,rc):=by
      rw [← hr]
      unfold xX
      by_cases c0:(begM s).1=0
      · rw [if_pos c0,if_pos c0,c0]
      · rw [if_neg c0,if_neg c0]
        by_cases c1:(begM s).1=11
        · rw [if_pos c1,if_pos c1,c1]
        · rw [if_neg c1,if_neg c1]
    simp only [Prod.mk.injEq] at hbg
    (repeat' (first|refine And.intro ?_ ?_|intro _))<;>first|omega|exact True.intro|exact False.elim ‹False›|skip
    all_goals first|omega|exact hbg.1|exact hbg.2|exact⟨rfl,hs⟩|rfl|(exfalso;exact q2 ‹s=[]›)|(simp only [xh];done)|exact hs|trace_state
  · rw [if_neg q1] at hr
    by_cases q2:s=[]
    · rw [if_pos q2] at hr
      (repeat' (first|refine And.intro ?_ ?_|intro _))<;>first|omega|exact True.intro|exact False.elim ‹False›|skip
      all_goals first|omega|(rw [hr];done)|(rw [hr])|rfl|exact hfs0|exact hf1|(exact(hf2 _ ‹_›).1)|(exact(hf2 _ ‹_›).2)|(exfalso;exact ‹¬ s=[]› q2)|trace_state
    rw [if_neg q2] at hr
    by_cases q3:hf.length=16
    · rw [if_pos q3] at hr
      simp only [Prod.mk.injEq] at hr
      obtain⟨rfl,rfl⟩:=hr
      (repeat' (first|refine And.intro ?_ ?_|intro _))<;>first|omega|exact True.intro|exact False.elim ‹False›|skip
      all_goals first|omega|rfl|(exfalso;exact q2 ‹s=[]›)|trace_state
    · rw [if_neg q3] at hr
      simp only [Prod.mk.injEq] at hr
      obtain⟨rfl,rfl⟩:=hr
      (repeat' (first|refine And.intro ?_ ?_|intro _))<;>first|omega|exact True.intro|exact False.elim ‹False›|skip
      all_goals first|omega|rfl|exact hs|(simp only [List.length_cons,List.length_nil];omega)|(exfalso;exact q2 ‹s=[]›)|trace_state
theorem zev (ln:Ln) (p:Int) (m tg:Str) (hm:Int) (hf:List Fld) (hl le:Int) (ch:Ch) (out:List Evt) (s:Str) (hneed:xh ⟨ln,p,⟨m,tg,hm,hf,hl⟩,le,some ch,false,out⟩∧rqFs ⟨ln,p,⟨m,tg,hm,hf,hl⟩,le,some ch,false,out⟩∧s.length≤1000000):Spc Tryz.prog 50 [.v (.one (.ptr 0 0)),.v (.one (.p (.str s)))] [.abs (.rq ⟨ln,p,⟨m,tg,hm,hf,hl⟩,le,some ch,false,out⟩)] (.ret (.v (.one (.p (.int .i64 ((zG ⟨ln,p,⟨m,tg,hm,hf,hl⟩,le,some ch,false,out⟩ s).2)))))) [.abs (.rq (((zG ⟨ln,p,⟨m,tg,hm,hf,hl⟩,le,some ch,false,out⟩ s).1)))]:=by
  exact absurd hneed.1 (fun h=>by unfold xh at h;cases h)
theorem zie (q:Rq) (s:Str) (hneed:xh q∧rqFs q∧s.length≤1000000):Spc Tryz.prog 50 [.v (.one (.ptr 0 0)),.v (.one (.p (.str s)))] [.abs (.rq q)] (.ret (.v (.one (.p (.int .i64 ((zG q s).2)))))) [.abs (.rq (((zG q s).1)))]:=by
  obtain⟨ln,p,⟨m,tg,hm,hf,hl⟩,le,ck,own,out⟩:=q
  cases ck with
  | none=>cases own with
    |true=>exact zew ln p m tg hm hf hl le out s hneed
    |false=>exact zex ln p m tg hm hf hl le out s hneed
  | some ch=>cases own with
    |true=>exact zeu ln p m tg hm hf hl le ch out s hneed
    |false=>exact zev ln p m tg hm hf hl le ch out s hneed
def Zo (I:Alg) (args:List D) (hp:List HO):Option CT:=match args,hp with
  |[.v (.one (.ptr 0 0)),.v (.one (.p (.str s)))],[.abs (.rq q)]=>(fun(q:Rq) (s:Str)=>(some (.one ⟨I.hid (xh q∧rqFs q∧s.length≤1000000),(.ret (.v (.one (.p (.int .i64 (I.hid ((zG q s).2))))))),[.abs (.rq (I.hid (((zG q s).1))))]⟩):Option CT)) q s
  |_,_=>none
theorem RS:zI Tryz.prog 50 (Zo alg):=by
  intro args hp r h
  unfold Zo at h
  split at h
  · cases h;exact fun hn=>zie _ _ hn
  · cases h
def Zn:Know Tryz.prog:=⟨50,Zo,RS⟩
def Zm:Know Tryz.prog:=⟨50,fun I=>zK I (Zo I),zf RS⟩
theorem zjW (k:Int) (hneed:False):Spc Tryz.prog 47 [.v (.one (.p (.val (.pointer none)))),.v (.one (.p (.int .u8 k)))] [] (.ret (.tup [(.one (.p (.list .byte ([])))),(.one (.p (.bool false))),(.one (.p (.int .i64 0)))])) []:=hneed.elim
def XU (I:Alg) (args:List D) (hp:List HO):Option CT:=match args,hp with
  |[.v (.one (.p (.val (.pointer none)))),.v (.one (.p (.int .u8 k)))],[]=>(fun(k:Int)=>(some (.one ⟨I.hid (False),(.ret (.tup [(.one (.p (.list .byte (I.hid ([]))))),(.one (.p (.bool false))),(.one (.p (.int .i64 0)))])),[]⟩):Option CT)) k
  |_,_=>none
theorem zcN:zI Tryz.prog 47 (XU alg):=by
  intro args hp r h
  unfold XU at h
  split at h
  · cases h;exact fun hn=>zjW _ hn
  · cases h
def XT:Know Tryz.prog:=⟨47,XU,zcN⟩
def XR:Know Tryz.prog:=⟨47,fun I=>zK I (XU I),zf zcN⟩
def rqN (q:Rq):Prop:=∃ i:Nat,i≤1000000∧RqI q i
theorem V4 (q:Rq) (s:Str):(zG q s).1.out.length≤q.out.length+2:=by
  unfold zG zV yP
  repeat' split
  all_goals(simp only [List.length_append,List.length_cons,List.length_nil];omega)
theorem zeR (ln:Ln) (p:Int) (m tg:Str) (hm:Int) (hf:List Fld) (hl le:Int) (out:List Evt) (k:Int) (hneed:rqN ⟨ln,p,⟨m,tg,hm,hf,hl⟩,le,none,true,out⟩∧0≤k∧k≤255):Spc Tryz.prog 22 [.v (.one (.ptr 0 0)),.v (.one (.p (.int .u8 k)))] [.abs (.rq ⟨ln,p,⟨m,tg,hm,hf,hl⟩,le,none,true,out⟩)] (.ret (.tup [])) [.abs (.rq ((rqF ⟨ln,p,⟨m,tg,hm,hf,hl⟩,le,none,true,out⟩ (UInt8.ofNat k.toNat))))]:=by
  obtain⟨⟨i,hi,hI0⟩,hk0,hk1⟩:=hneed
  obtain⟨g1,g2,g3,g4,g5,g6,g7,g8,g9,g10⟩:=hI0
  simp only at g1 g2 g3 g4 g5 g6 g7 g8 g9 g10
  have hfs:FsOk hf:=⟨by omega,fun f hm=>by have:=g6 f hm;omega⟩
  have hll:=YL ln (UInt8.ofNat k.toNat)
  generalize hr:rqF ⟨ln,p,⟨m,tg,hm,hf,hl⟩,le,none,true,out⟩ (UInt8.ofNat k.toNat)=r
  refine spcG zu mixed Tryz.func22 (by kernel_rfl) { cfgQ with fz:=[45],keep:=some [0,1,4,5,6,7,8,9,13,62]} [sU,sS,Z9,Z8,XT,XR,zT,zS,zZ,zY,yj,yh,yB,yA,xC,xB,Zv,Zu,rX,rW,Zn,Zm] (by kernel_rfl) ?_
  intro I X hI hX
  refine zh (let y0:=I.hid (α:=Int) (Go.Ab.Ln.code (Prod.fst (lnF (Go.Ab.Ln.mk (Go.Ab.Ln.b ln) (Go.Ab.Ln.cr ln) (Go.Ab.Ln.code ln)) (UInt8.ofNat (Int.toNat k)))));let y1:=I.hid (α:=Bool) (Go.Ab.Ln.cr (Prod.fst (lnF (Go.Ab.Ln.mk (Go.Ab.Ln.b ln) (Go.Ab.Ln.cr ln) (Go.Ab.Ln.code ln)) (UInt8.ofNat (Int.toNat k)))));let y2:=I.hid (α:=Str) (Go.Ab.Ln.b (Prod.fst (lnF (Go.Ab.Ln.mk (Go.Ab.Ln.b ln) (Go.Ab.Ln.cr ln) (Go.Ab.Ln.code ln)) (UInt8.ofNat (Int.toNat k)))));let y3:=I.hid (α:=Str) (Prod.fst (Prod.snd (lnF (Go.Ab.Ln.mk (Go.Ab.Ln.b ln) (Go.Ab.Ln.cr ln) (Go.Ab.Ln.code ln)) (UInt8.ofNat (Int.toNat k)))));let y4:=I.hid (α:=Int) (Prod.snd (Prod.snd (Prod.snd (lnF (Go.Ab.Ln.mk (Go.Ab.Ln.b ln) (Go.Ab.Ln.cr ln) (Go.Ab.Ln.code ln)) (UInt8.ofNat (Int.toNat k))))));let y5:=I.hid (α:=Go.Ab.Rq) (Prod.fst (zG (Go.Ab.Rq.mk (Go.Ab.Ln.mk y2 y1 y0) p (Hd.mk m tg hm hf hl) le (Option.none) Bool.true out) y3));let y6:=I.hid (α:=(List Go.Ab.Evt)) (HAppend.hAppend out ([(Go.Ab.Evt.mk (2:Int) (Hd.mk ([]:Str) ([]:Str) (0:Int) ([]:List Fld) (0:Int)) (I.hid (α:=Str) ([]:Str)) (Go.Ab.Prt.mk ([]:Str) ([]:Str) ([]:Str) ([]:Str)) (0:Int))]:List Go.Ab.Evt));let y7:=I.hid (α:=(List Go.Ab.Evt)) (HAppend.hAppend out ([(Go.Ab.Evt.mk (2:Int) (Hd.mk ([]:Str) ([]:Str) (0:Int) ([]:List Fld) (0:Int)) ([(I.i2b k)]:Str) (Go.Ab.Prt.mk ([]:Str) ([]:Str) ([]:Str) ([]:Str)) (0:Int))]:List Go.Ab.Evt));let y8:=I.hid (α:=(Prop)) (zA (Go.Ab.Rq.mk (Go.Ab.Ln.mk (Go.Ab.Ln.b ln) (Go.Ab.Ln.cr ln) (Go.Ab.Ln.code ln)) p (Hd.mk m tg hm hf hl) le (Option.none) Bool.true out));let y9:=I.hid (α:=Int) (Prod.snd (zG (Go.Ab.Rq.mk (Go.Ab.Ln.mk y2 y1 y0) p (Hd.mk m tg hm hf hl) le (Option.none) Bool.true out) y3));let y10:=I.hid (α:=Go.Ab.Rq) (zX (Go.Ab.Rq.mk (Go.Ab.Ln.mk y2 y1 y0) p (Hd.mk m tg hm hf hl) le (Option.none) Bool.true out) y4);let y11:=I.hid (α:=(Prop)) (zA (Go.Ab.Rq.mk (Go.Ab.Ln.mk y2 y1 y0) p (Hd.mk m tg hm hf hl) le (Option.none) Bool.true out));let y12:=I.hid (α:=(Prop)) (And (xh (Go.Ab.Rq.mk (Go.Ab.Ln.mk y2 y1 y0) p (Hd.mk m tg hm hf hl) le (Option.none) Bool.true out)) (And (rqFs (Go.Ab.Rq.mk (Go.Ab.Ln.mk y2 y1 y0) p (Hd.mk m tg hm hf hl) le (Option.none) Bool.true out)) (LE.le (List.length y3) 1000000)));let y13:=I.hid (α:=Bool) (Prod.fst (Prod.snd (Prod.snd (lnF (Go.Ab.Ln.mk (Go.Ab.Ln.b ln) (Go.Ab.Ln.cr ln) (Go.Ab.Ln.code ln)) (UInt8.ofNat (Int.toNat k))))));let y14:=I.hid (α:=(Prop)) (And (LE.le (0:Int) k) (And (LE.le k (255:Int)) (LE.le (List.length (Go.Ab.Ln.b ln)) 1000000)));let y15:=I.hid (α:=Go.Ab.Rq) (zX y5 y9);.br (I.ieq p 2) (.need (I.inr Go.IntKind.u8 k) (.need y8 (.need (I.inr Go.IntKind.i64 (I.sub le 1)) (.br (I.ieq (I.sub le 1) 0) (.need (I.hid (α:=(Prop)) (zA (Go.Ab.Rq.mk (Go.Ab.Ln.mk (Go.Ab.Ln.b ln) (Go.Ab.Ln.cr ln) (Go.Ab.Ln.code ln)) p (Hd.mk m tg hm hf hl) (I.sub le 1) (Option.none) Bool.true y7))) (.fin (.ret (.tup [])) [(.abs (.rq (I.hid (α:=Go.Ab.Rq) (yP (Go.Ab.Rq.mk (Go.Ab.Ln.mk (Go.Ab.Ln.b ln) (Go.Ab.Ln.cr ln) (Go.Ab.Ln.code ln)) p (Hd.mk m tg hm hf hl) (I.sub le 1) (Option.none) Bool.true y7)))))])) (.fin (.ret (.tup [])) [(.abs (.rq (Go.Ab.Rq.mk (Go.Ab.Ln.mk (Go.Ab.Ln.b ln) (Go.Ab.Ln.cr ln) (Go.Ab.Ln.code ln)) p (Hd.mk m tg hm hf hl) (I.sub le 1) (Option.none) Bool.true y7)))]))))) (.br (I.ieq p 3) (.need (I.hid (α:=(Prop)) False) (.br (I.bnot (I.ieq 0 0)) (.need y8 (.fin (.ret (.tup [])) [(.abs (.rq (I.hid (α:=Go.Ab.Rq) (zX (Go.Ab.Rq.mk (Go.Ab.Ln.mk (Go.Ab.Ln.b ln) (Go.Ab.Ln.cr ln) (Go.Ab.Ln.code ln)) p (Hd.mk m tg hm hf hl) le (Option.none) Bool.true out) (0:Int)))))])) (.br (I.ilt 0 (I.len (α:=UInt8) (I.hid (α:=Str) ([]:Str)))) (.need y8 (.br Bool.false (.need (I.hid (α:=(Prop)) (zA (Go.Ab.Rq.mk (Go.Ab.Ln.mk (Go.Ab.Ln.b ln) (Go.Ab.Ln.cr ln) (Go.Ab.Ln.code ln)) p (Hd.mk m tg hm hf hl) le (Option.none) Bool.true y6))) (.fin (.ret (.tup [])) [(.abs (.rq (I.hid (α:=Go.Ab.Rq) (yP (Go.Ab.Rq.mk (Go.Ab.Ln.mk (Go.Ab.Ln.b ln) (Go.Ab.Ln.cr ln) (Go.Ab.Ln.code ln)) p (Hd.mk m tg hm hf hl) le (Option.none) Bool.true y6)))))])) (.fin (.ret (.tup [])) [(.abs (.rq (Go.Ab.Rq.mk (Go.Ab.Ln.mk (Go.Ab.Ln.b ln) (Go.Ab.Ln.cr ln) (Go.Ab.Ln.code ln)) p (Hd.mk m tg hm hf hl) le (Option.none) Bool.true y6)))]))) (.br Bool.false (.need y8 (.fin (.ret (.tup [])) [(.abs (.rq (I.hid (α:=Go.Ab.Rq) (yP (Go.Ab.Rq.mk (Go.Ab.Ln.mk (Go.Ab.Ln.b ln) (Go.Ab.Ln.cr ln) (Go.Ab.Ln.code ln)) p (Hd.mk m tg hm hf hl) le (Option.none) Bool.true out)))))])) (.fin (.ret (.tup [])) [(.abs (.rq (Go.Ab.Rq.mk (Go.Ab.Ln.mk (Go.Ab.Ln.b ln) (Go.Ab.Ln.cr ln) (Go.Ab.Ln.code ln)) p (Hd.mk m tg hm hf hl) le (Option.none) Bool.true out)))]))))) (.br (I.ieq p 0) (.need y14 (.br (I.ieq y4 0) (.br y13 (.need y12 (.br (I.bnot (I.ieq y9 0)) (.need (I.hid (α:=(Prop)) (zA y5)) (.fin (.ret (.tup [])) [(.abs (.rq y15))])) (.fin (.ret (.tup [])) [(.abs (.rq y5))]))) (.br (I.bnot (I.ieq y4 0)) (.need y11 (.fin (.ret (.tup [])) [(.abs (.rq y10))])) (.fin (.ret (.tup [])) [(.abs (.rq (Go.Ab.Rq.mk (Go.Ab.Ln.mk y2 y1 y0) p (Hd.mk m tg hm hf hl) le (Option.none) Bool.true out)))]))) (.br (I.bnot (I.ieq y4 0)) (.need y11 (.fin (.ret (.tup [])) [(.abs (.rq y10))])) (.fin (.ret (.tup [])) [(.abs (.rq (Go.Ab.Rq.mk (Go.Ab.Ln.mk y2 y1 y0) p (Hd.mk m tg hm hf hl) le (Option.none) Bool.true out)))])))) (.br (I.ieq p 1) (.need y14 (.br (I.ieq y4 0) (.br y13 (.need y12 (.br (I.bnot (I.ieq y9 0)) (.need (I.hid (α:=(Prop)) (zA y5)) (.fin (.ret (.tup [])) [(.abs (.rq y15))])) (.fin (.ret (.tup [])) [(.abs (.rq y5))]))) (.br (I.bnot (I.ieq y4 0)) (.need y11 (.fin (.ret (.tup [])) [(.abs (.rq y10))])) (.fin (.ret (.tup [])) [(.abs (.rq (Go.Ab.Rq.mk (Go.Ab.Ln.mk y2 y1 y0) p (Hd.mk m tg hm hf hl) le (Option.none) Bool.true out)))]))) (.br (I.bnot (I.ieq y4 0)) (.need y11 (.fin (.ret (.tup [])) [(.abs (.rq y10))])) (.fin (.ret (.tup [])) [(.abs (.rq (Go.Ab.Rq.mk (Go.Ab.Ln.mk y2 y1 y0) p (Hd.mk m tg hm hf hl) le (Option.none) Bool.true out)))])))) (.fin (.ret (.tup [])) [(.abs (.rq (Go.Ab.Rq.mk (Go.Ab.Ln.mk (Go.Ab.Ln.b ln) (Go.Ab.Ln.cr ln) (Go.Ab.Ln.code ln)) p (Hd.mk m tg hm hf hl) le (Option.none) Bool.true out)))]))))) (by kernel_rfl) ?_
  simp only [zC]
  subst hI
  unfold rqF at hr
  simp only at hr
  simp only [nrmA,nrmB,nrlB,reduceCtorEq,HO.abs.injEq,Gh.rq.injEq,Rq.mk.injEq]
  generalize UInt8.ofNat k.toNat=c at *
  have hz2:lnF ⟨ln.b,ln.cr,ln.code⟩ c=lnF ln c:=rfl
  simp only [hz2]
  clear hz2 g2
  by_cases q1:p=2
  · rw [if_pos q1] at hr
    have h9:=g9 q1
    by_cases q2:le - 1=0
    · rw [if_pos q2] at hr
      subst hr
      have q3:le=1:=by omega
      subst q3
      (repeat' (first|refine And.intro ?_ ?_|intro _))<;>first|omega|exact True.intro|exact False.elim ‹False›|skip
      all_goals first|omega|rfl|(unfold zA;simp;omega)|(unfold zA;simp only;omega)|trace_state
    · rw [if_neg q2] at hr
      subst hr
      (repeat' (first|refine And.intro ?_ ?_|intro _))<;>first|omega|exact True.intro|exact False.elim ‹False›|skip
      all_goals first|omega|rfl|(unfold zA;simp;omega)|(unfold zA;simp only;omega)|trace_state
  rw [if_neg q1] at hr
  by_cases q4:p=3
  · exact absurd rfl (g3 q4)
  rw [if_neg q4] at hr
  by_cases q8:p=0∨p=1
  · rw [if_pos q8] at hr
    have hl: ∀ (l:Ln) (s:Str),zG ⟨⟨l.b,l.cr,l.code⟩,p,⟨m,tg,hm,hf,hl⟩,le,none,true,out⟩ s=zG ⟨l,p,⟨m,tg,hm,hf,hl⟩,le,none,true,out⟩ s:=fun l s=>rfl
    simp only [hl]
    clear hl
    generalize lnF ln c=z at *
    obtain⟨l2,s,is,e⟩:=z
    simp only at hr hll ⊢
    have hlo:(zG ⟨l2,p,⟨m,tg,hm,hf,hl⟩,le,none,true,out⟩ s).1.out.length≤out.length+2:=V4 _ _
    generalize zG ⟨l2,p,⟨m,tg,hm,hf,hl⟩,le,none,true,out⟩ s=y at *
    obtain⟨y,ye⟩:=y
    simp only at hr hlo ⊢
    by_cases q5:e=0
    · rw [if_neg (fun h=>h q5)] at hr
      cases is with
      | true=>
        rw [if_pos rfl] at hr
        by_cases q6:ye=0
        · rw [if_neg (fun h=>h q6)] at hr
          subst hr
          (repeat' (first|refine And.intro ?_ ?_|intro _))<;>first|omega|exact True.intro|exact False.elim ‹False›|skip
          all_goals first|omega|rfl|contradiction|exact⟨rfl,⟨hfs,by simp only;omega⟩,by omega⟩|(simp only [xh];done)|exact hfs.1|(exact(hfs.2 _ ‹_›).1)|(exact(hfs.2 _ ‹_›).2)|(unfold zA;omega)|(simp only;omega)|trace_state
        · rw [if_pos q6] at hr
          subst hr
          (repeat' (first|refine And.intro ?_ ?_|intro _))<;>first|omega|exact True.intro|exact False.elim ‹False›|skip
          all_goals first|omega|rfl|contradiction|exact⟨rfl,⟨hfs,by simp only;omega⟩,by omega⟩|(simp only [xh];done)|exact hfs.1|(exact(hfs.2 _ ‹_›).1)|(exact(hfs.2 _ ‹_›).2)|(unfold zA;omega)|(simp only;omega)|trace_state
      | false=>
        rw [if_neg Bool.false_ne_true] at hr
        subst hr
        (repeat' (first|refine And.intro ?_ ?_|intro _))<;>first|omega|exact True.intro|exact False.elim ‹False›|skip
        all_goals first|omega|rfl|contradiction|trace_state
    · rw [if_pos q5] at hr
      subst hr
      (repeat' (first|refine And.intro ?_ ?_|intro _))<;>first|omega|exact True.intro|exact False.elim ‹False›|skip
      all_goals first|omega|rfl|contradiction|(unfold zA;simp only;omega)|trace_state
  rw [if_neg q8] at hr
  subst hr
  (repeat' (first|refine And.intro ?_ ?_|intro _))<;>first|omega|exact True.intro|exact False.elim ‹False›|skip
  all_goals first|omega|rfl|contradiction|trace_state
theorem zeS (ln:Ln) (p:Int) (m tg:Str) (hm:Int) (hf:List Fld) (hl le:Int) (out:List Evt) (k:Int) (hneed:rqN ⟨ln,p,⟨m,tg,hm,hf,hl⟩,le,none,false,out⟩∧0≤k∧k≤255):Spc Tryz.prog 22 [.v (.one (.ptr 0 0)),.v (.one (.p (.int .u8 k)))] [.abs (.rq ⟨ln,p,⟨m,tg,hm,hf,hl⟩,le,none,false,out⟩)] (.ret (.tup [])) [.abs (.rq ((rqF ⟨ln,p,⟨m,tg,hm,hf,hl⟩,le,none,false,out⟩ (UInt8.ofNat k.toNat))))]:=by
  obtain⟨⟨i,hi,hI0⟩,hk0,hk1⟩:=hneed
  obtain⟨g1,g2,g3,g4,g5,g6,g7,g8,g9,g10⟩:=hI0
  simp only at g1 g2 g3 g4 g5 g6 g7 g8 g9 g10
  have hfs:FsOk hf:=⟨by omega,fun f hm=>by have:=g6 f hm;omega⟩
  have hll:=YL ln (UInt8.ofNat k.toNat)
  generalize hr:rqF ⟨ln,p,⟨m,tg,hm,hf,hl⟩,le,none,false,out⟩ (UInt8.ofNat k.toNat)=r
  refine spcG zu mixed Tryz.func22 (by kernel_rfl) { cfgQ with fz:=[45],keep:=some [0,1,4,5,6,7,8,9,13,62]} [sU,sS,Z9,Z8,XT,XR,zT,zS,zZ,zY,yj,yh,yB,yA,xC,xB,Zv,Zu,rX,rW,Zn,Zm] (by kernel_rfl) ?_
  intro I X hI hX
  refine zh (let y0:=I.hid (α:=Int) (Go.Ab.Ln.code (Prod.fst (lnF (Go.Ab.Ln.mk (Go.Ab.Ln.b ln) (Go.Ab.Ln.cr ln) (Go.Ab.Ln.code ln)) (UInt8.ofNat (Int.toNat k)))));let y1:=I.hid (α:=Bool) (Go.Ab.Ln.cr (Prod.fst (lnF (Go.Ab.Ln.mk (Go.Ab.Ln.b ln) (Go.Ab.Ln.cr ln) (Go.Ab.Ln.code ln)) (UInt8.ofNat (Int.toNat k)))));let y2:=I.hid (α:=Str) (Go.Ab.Ln.b (Prod.fst (lnF (Go.Ab.Ln.mk (Go.Ab.Ln.b ln) (Go.Ab.Ln.cr ln) (Go.Ab.Ln.code ln)) (UInt8.ofNat (Int.toNat k)))));let y3:=I.hid (α:=Str) (Prod.fst (Prod.snd (lnF (Go.Ab.Ln.mk (Go.Ab.Ln.b ln) (Go.Ab.Ln.cr ln) (Go.Ab.Ln.code ln)) (UInt8.ofNat (Int.toNat k)))));let y4:=I.hid (α:=Int) (Prod.snd (Prod.snd (Prod.snd (lnF (Go.Ab.Ln.mk (Go.Ab.Ln.b ln) (Go.Ab.Ln.cr ln) (Go.Ab.Ln.code ln)) (UInt8.ofNat (Int.toNat k))))));let y5:=I.hid (α:=Go.Ab.Rq) (Prod.fst (zG (Go.Ab.Rq.mk (Go.Ab.Ln.mk y2 y1 y0) p (Hd.mk m tg hm hf hl) le (Option.none) Bool.false out) y3));let y6:=I.hid (α:=(List Go.Ab.Evt)) (HAppend.hAppend out ([(Go.Ab.Evt.mk (2:Int) (Hd.mk ([]:Str) ([]:Str) (0:Int) ([]:List Fld) (0:Int)) (I.hid (α:=Str) ([]:Str)) (Go.Ab.Prt.mk ([]:Str) ([]:Str) ([]:Str) ([]:Str)) (0:Int))]:List Go.Ab.Evt));let y7:=I.hid (α:=(List Go.Ab.Evt)) (HAppend.hAppend out ([(Go.Ab.Evt.mk (2:Int) (Hd.mk ([]:Str) ([]:Str) (0:Int) ([]:List Fld) (0:Int)) ([(I.i2b k)]:Str) (Go.Ab.Prt.mk ([]:Str) ([]:Str) ([]:Str) ([]:Str)) (0:Int))]:List Go.Ab.Evt));let y8:=I.hid (α:=(Prop)) (zA (Go.Ab.Rq.mk (Go.Ab.Ln.mk (Go.Ab.Ln.b ln) (Go.Ab.Ln.cr ln) (Go.Ab.Ln.code ln)) p (Hd.mk m tg hm hf hl) le (Option.none) Bool.false out));let y9:=I.hid (α:=Int) (Prod.snd (zG (Go.Ab.Rq.mk (Go.Ab.Ln.mk y2 y1 y0) p (Hd.mk m tg hm hf hl) le (Option.none) Bool.false out) y3));let y10:=I.hid (α:=Go.Ab.Rq) (zX (Go.Ab.Rq.mk (Go.Ab.Ln.mk y2 y1 y0) p (Hd.mk m tg hm hf hl) le (Option.none) Bool.false out) y4);let y11:=I.hid (α:=(Prop)) (zA (Go.Ab.Rq.mk (Go.Ab.Ln.mk y2 y1 y0) p (Hd.mk m tg hm hf hl) le (Option.none) Bool.false out));let y12:=I.hid (α:=(Prop)) (And (xh (Go.Ab.Rq.mk (Go.Ab.Ln.mk y2 y1 y0) p (Hd.mk m tg hm hf hl) le (Option.none) Bool.false out)) (And (rqFs (Go.Ab.Rq.mk (Go.Ab.Ln.mk y2 y1 y0) p (Hd.mk m tg hm hf hl) le (Option.none) Bool.false out)) (LE.le (List.length y3) 1000000)));let y13:=I.hid (α:=Bool) (Prod.fst (Prod.snd (Prod.snd (lnF (Go.Ab.Ln.mk (Go.Ab.Ln.b ln) (Go.Ab.Ln.cr ln) (Go.Ab.Ln.code ln)) (UInt8.ofNat (Int.toNat k))))));let y14:=I.hid (α:=(Prop)) (And (LE.le (0:Int) k) (And (LE.le k (255:Int)) (LE.le (List.length (Go.Ab.Ln.b ln)) 1000000)));let y15:=I.hid (α:=Go.Ab.Rq) (zX y5 y9);.br (I.ieq p 2) (.need (I.inr Go.IntKind.u8 k) (.need y8 (.need (I.inr Go.IntKind.i64 (I.sub le 1)) (.br (I.ieq (I.sub le 1) 0) (.need (I.hid (α:=(Prop)) (zA (Go.Ab.Rq.mk (Go.Ab.Ln.mk (Go.Ab.Ln.b ln) (Go.Ab.Ln.cr ln) (Go.Ab.Ln.code ln)) p (Hd.mk m tg hm hf hl) (I.sub le 1) (Option.none) Bool.false y7))) (.fin (.ret (.tup [])) [(.abs (.rq (I.hid (α:=Go.Ab.Rq) (yP (Go.Ab.Rq.mk (Go.Ab.Ln.mk (Go.Ab.Ln.b ln) (Go.Ab.Ln.cr ln) (Go.Ab.Ln.code ln)) p (Hd.mk m tg hm hf hl) (I.sub le 1) (Option.none) Bool.false y7)))))])) (.fin (.ret (.tup [])) [(.abs (.rq (Go.Ab.Rq.mk (Go.Ab.Ln.mk (Go.Ab.Ln.b ln) (Go.Ab.Ln.cr ln) (Go.Ab.Ln.code ln)) p (Hd.mk m tg hm hf hl) (I.sub le 1) (Option.none) Bool.false y7)))]))))) (.br (I.ieq p 3) (.need (I.hid (α:=(Prop)) False) (.br (I.bnot (I.ieq 0 0)) (.need y8 (.fin (.ret (.tup [])) [(.abs (.rq (I.hid (α:=Go.Ab.Rq) (zX (Go.Ab.Rq.mk (Go.Ab.Ln.mk (Go.Ab.Ln.b ln) (Go.Ab.Ln.cr ln) (Go.Ab.Ln.code ln)) p (Hd.mk m tg hm hf hl) le (Option.none) Bool.false out) (0:Int)))))])) (.br (I.ilt 0 (I.len (α:=UInt8) (I.hid (α:=Str) ([]:Str)))) (.need y8 (.br Bool.false (.need (I.hid (α:=(Prop)) (zA (Go.Ab.Rq.mk (Go.Ab.Ln.mk (Go.Ab.Ln.b ln) (Go.Ab.Ln.cr ln) (Go.Ab.Ln.code ln)) p (Hd.mk m tg hm hf hl) le (Option.none) Bool.false y6))) (.fin (.ret (.tup [])) [(.abs (.rq (I.hid (α:=Go.Ab.Rq) (yP (Go.Ab.Rq.mk (Go.Ab.Ln.mk (Go.Ab.Ln.b ln) (Go.Ab.Ln.cr ln) (Go.Ab.Ln.code ln)) p (Hd.mk m tg hm hf hl) le (Option.none) Bool.false y6)))))])) (.fin (.ret (.tup [])) [(.abs (.rq (Go.Ab.Rq.mk (Go.Ab.Ln.mk (Go.Ab.Ln.b ln) (Go.Ab.Ln.cr ln) (Go.Ab.Ln.code ln)) p (Hd.mk m tg hm hf hl) le (Option.none) Bool.false y6)))]))) (.br Bool.false (.need y8 (.fin (.ret (.tup [])) [(.abs (.rq (I.hid (α:=Go.Ab.Rq) (yP (Go.Ab.Rq.mk (Go.Ab.Ln.mk (Go.Ab.Ln.b ln) (Go.Ab.Ln.cr ln) (Go.Ab.Ln.code ln)) p (Hd.mk m tg hm hf hl) le (Option.none) Bool.false out)))))])) (.fin (.ret (.tup [])) [(.abs (.rq (Go.Ab.Rq.mk (Go.Ab.Ln.mk (Go.Ab.Ln.b ln) (Go.Ab.Ln.cr ln) (Go.Ab.Ln.code ln)) p (Hd.mk m tg hm hf hl) le (Option.none) Bool.false out)))]))))) (.br (I.ieq p 0) (.need y14 (.br (I.ieq y4 0) (.br y13 (.need y12 (.br (I.bnot (I.ieq y9 0)) (.need (I.hid (α:=(Prop)) (zA y5)) (.fin (.ret (.tup [])) [(.abs (.rq y15))])) (.fin (.ret (.tup [])) [(.abs (.rq y5))]))) (.br (I.bnot (I.ieq y4 0)) (.need y11 (.fin (.ret (.tup [])) [(.abs (.rq y10))])) (.fin (.ret (.tup [])) [(.abs (.rq (Go.Ab.Rq.mk (Go.Ab.Ln.mk y2 y1 y0) p (Hd.mk m tg hm hf hl) le (Option.none) Bool.false out)))]))) (.br (I.bnot (I.ieq y4 0)) (.need y11 (.fin (.ret (.tup [])) [(.abs (.rq y10))])) (.fin (.ret (.tup [])) [(.abs (.rq (Go.Ab.Rq.mk (Go.Ab.Ln.mk y2 y1 y0) p (Hd.mk m tg hm hf hl) le (Option.none) Bool.false out)))])))) (.br (I.ieq p 1) (.need y14 (.br (I.ieq y4 0) (.br y13 (.need y12 (.br (I.bnot (I.ieq y9 0)) (.need (I.hid (α:=(Prop)) (zA y5)) (.fin (.ret (.tup [])) [(.abs (.rq y15))])) (.fin (.ret (.tup [])) [(.abs (.rq y5))]))) (.br (I.bnot (I.ieq y4 0)) (.need y11 (.fin (.ret (.tup [])) [(.abs (.rq y10))])) (.fin (.ret (.tup [])) [(.abs (.rq (Go.Ab.Rq.mk (Go.Ab.Ln.mk y2 y1 y0) p (Hd.mk m tg hm hf hl) le (Option.none) Bool.false out)))]))) (.br (I.bnot (I.ieq y4 0)) (.need y11 (.fin (.ret (.tup [])) [(.abs (.rq y10))])) (.fin (.ret (.tup [])) [(.abs (.rq (Go.Ab.Rq.mk (Go.Ab.Ln.mk y2 y1 y0) p (Hd.mk m tg hm hf hl) le (Option.none) Bool.false out)))])))) (.fin (.ret (.tup [])) [(.abs (.rq (Go.Ab.Rq.mk (Go.Ab.Ln.mk (Go.Ab.Ln.b ln) (Go.Ab.Ln.cr ln) (Go.Ab.Ln.code ln)) p (Hd.mk m tg hm hf hl) le (Option.none) Bool.false out)))]))))) (by kernel_rfl) ?_
  simp only [zC]
  subst hI
  unfold rqF at hr
  simp only at hr
  simp only [nrmA,nrmB,nrlB,reduceCtorEq,HO.abs.injEq,Gh.rq.injEq,Rq.mk.injEq]
  generalize UInt8.ofNat k.toNat=c at *
  have hz2:lnF ⟨ln.b,ln.cr,ln.code⟩ c=lnF ln c:=rfl
  simp only [hz2]
  clear hz2 g2
  by_cases q1:p=2
  · rw [if_pos q1] at hr
    have h9:=g9 q1
    by_cases q2:le - 1=0
    · rw [if_pos q2] at hr
      subst hr
      have q3:le=1:=by omega
      subst q3
      (repeat' (first|refine And.intro ?_ ?_|intro _))<;>first|omega|exact True.intro|exact False.elim ‹False›|skip
      all_goals first|omega|rfl|(unfold zA;simp;omega)|(unfold zA;simp only;omega)|trace_state
    · rw [if_neg q2] at hr
      subst hr
      (repeat' (first|refine And.intro ?_ ?_|intro _))<;>first|omega|exact True.intro|exact False.elim ‹False›|skip
      all_goals first|omega|rfl|(unfold zA;simp;omega)|(unfold zA;simp only;omega)|trace_state
  rw [if_neg q1] at hr
  by_cases q4:p=3
  · exact absurd rfl (g3 q4)
  rw [if_neg q4] at hr
  by_cases q8:p=0∨p=1
  · exact absurd (g4 q8) (by simp)
  rw [if_neg q8] at hr
  subst hr
  (repeat' (first|refine And.intro ?_ ?_|intro _))<;>first|omega|exact True.intro|exact False.elim ‹False›|skip
  all_goals first|omega|rfl|contradiction|trace_state
theorem zeP (ln:Ln) (p:Int) (m tg:Str) (hm:Int) (hf:List Fld) (hl le:Int) (ch:Ch) (out:List Evt) (k:Int) (hneed:rqN ⟨ln,p,⟨m,tg,hm,hf,hl⟩,le,some ch,true,out⟩∧0≤k∧k≤255):Spc Tryz.prog 22 [.v (.one (.ptr 0 0)),.v (.one (.p (.int .u8 k)))] [.abs (.rq ⟨ln,p,⟨m,tg,hm,hf,hl⟩,le,some ch,true,out⟩)] (.ret (.tup [])) [.abs (.rq ((rqF ⟨ln,p,⟨m,tg,hm,hf,hl⟩,le,some ch,true,out⟩ (UInt8.ofNat k.toNat))))]:=by
  obtain⟨⟨i,hi,hI0⟩,hk0,hk1⟩:=hneed
  obtain⟨g1,g2,g3,g4,g5,g6,g7,g8,g9,g10⟩:=hI0
  simp only at g1 g2 g3 g4 g5 g6 g7 g8 g9 g10
  have hfs:FsOk hf:=⟨by omega,fun f hm=>by have:=g6 f hm;omega⟩
  have hll:=YL ln (UInt8.ofNat k.toNat)
  generalize hr:rqF ⟨ln,p,⟨m,tg,hm,hf,hl⟩,le,some ch,true,out⟩ (UInt8.ofNat k.toNat)=r
  refine spcG zu mixed Tryz.func22 (by kernel_rfl) { cfgQ with fz:=[45],keep:=some [0,1,4,5,6,7,8,9,13,62]} [sU,sS,Z9,Z8,XT,XR,zT,zS,zZ,zY,yj,yh,yB,yA,xC,xB,Zv,Zu,rX,rW,Zn,Zm] (by kernel_rfl) ?_
  intro I X hI hX
  refine zh (let y8:=I.hid (α:=Str) (Go.Ab.Ln.b (Go.Ab.Ch.ln (Prod.fst (chF (Go.Ab.Ch.mk (Go.Ab.Ln.mk (Go.Ab.Ln.b (Go.Ab.Ch.ln ch)) (Go.Ab.Ln.cr (Go.Ab.Ch.ln ch)) (Go.Ab.Ln.code (Go.Ab.Ch.ln ch))) (Go.Ab.Ch.pos ch) (Go.Ab.Ch.left ch) (Go.Ab.Ch.all ch) (Go.Ab.Ch.tails ch) (Go.Ab.Ch.code ch)) (UInt8.ofNat (Int.toNat k))))));let y7:=I.hid (α:=Bool) (Go.Ab.Ln.cr (Go.Ab.Ch.ln (Prod.fst (chF (Go.Ab.Ch.mk (Go.Ab.Ln.mk (Go.Ab.Ln.b (Go.Ab.Ch.ln ch)) (Go.Ab.Ln.cr (Go.Ab.Ch.ln ch)) (Go.Ab.Ln.code (Go.Ab.Ch.ln ch))) (Go.Ab.Ch.pos ch) (Go.Ab.Ch.left ch) (Go.Ab.Ch.all ch) (Go.Ab.Ch.tails ch) (Go.Ab.Ch.code ch)) (UInt8.ofNat (Int.toNat k))))));let y6:=I.hid (α:=Int) (Go.Ab.Ln.code (Go.Ab.Ch.ln (Prod.fst (chF (Go.Ab.Ch.mk (Go.Ab.Ln.mk (Go.Ab.Ln.b (Go.Ab.Ch.ln ch)) (Go.Ab.Ln.cr (Go.Ab.Ch.ln ch)) (Go.Ab.Ln.code (Go.Ab.Ch.ln ch))) (Go.Ab.Ch.pos ch) (Go.Ab.Ch.left ch) (Go.Ab.Ch.all ch) (Go.Ab.Ch.tails ch) (Go.Ab.Ch.code ch)) (UInt8.ofNat (Int.toNat k))))));let y12:=I.hid (α:=Int) (Go.Ab.Ch.pos (Prod.fst (chF (Go.Ab.Ch.mk (Go.Ab.Ln.mk (Go.Ab.Ln.b (Go.Ab.Ch.ln ch)) (Go.Ab.Ln.cr (Go.Ab.Ch.ln ch)) (Go.Ab.Ln.code (Go.Ab.Ch.ln ch))) (Go.Ab.Ch.pos ch) (Go.Ab.Ch.left ch) (Go.Ab.Ch.all ch) (Go.Ab.Ch.tails ch) (Go.Ab.Ch.code ch)) (UInt8.ofNat (Int.toNat k)))));let y10:=I.hid (α:=Int) (Go.Ab.Ch.left (Prod.fst (chF (Go.Ab.Ch.mk (Go.Ab.Ln.mk (Go.Ab.Ln.b (Go.Ab.Ch.ln ch)) (Go.Ab.Ln.cr (Go.Ab.Ch.ln ch)) (Go.Ab.Ln.code (Go.Ab.Ch.ln ch))) (Go.Ab.Ch.pos ch) (Go.Ab.Ch.left ch) (Go.Ab.Ch.all ch) (Go.Ab.Ch.tails ch) (Go.Ab.Ch.code ch)) (UInt8.ofNat (Int.toNat k)))));let y13:=I.hid (α:=Int) (Go.Ab.Ch.all (Prod.fst (chF (Go.Ab.Ch.mk (Go.Ab.Ln.mk (Go.Ab.Ln.b (Go.Ab.Ch.ln ch)) (Go.Ab.Ln.cr (Go.Ab.Ch.ln ch)) (Go.Ab.Ln.code (Go.Ab.Ch.ln ch))) (Go.Ab.Ch.pos ch) (Go.Ab.Ch.left ch) (Go.Ab.Ch.all ch) (Go.Ab.Ch.tails ch) (Go.Ab.Ch.code ch)) (UInt8.ofNat (Int.toNat k)))));let y9:=I.hid (α:=Int) (Go.Ab.Ch.tails (Prod.fst (chF (Go.Ab.Ch.mk (Go.Ab.Ln.mk (Go.Ab.Ln.b (Go.Ab.Ch.ln ch)) (Go.Ab.Ln.cr (Go.Ab.Ch.ln ch)) (Go.Ab.Ln.code (Go.Ab.Ch.ln ch))) (Go.Ab.Ch.pos ch) (Go.Ab.Ch.left ch) (Go.Ab.Ch.all ch) (Go.Ab.Ch.tails ch) (Go.Ab.Ch.code ch)) (UInt8.ofNat (Int.toNat k)))));let y11:=I.hid (α:=Int) (Go.Ab.Ch.code (Prod.fst (chF (Go.Ab.Ch.mk (Go.Ab.Ln.mk (Go.Ab.Ln.b (Go.Ab.Ch.ln ch)) (Go.Ab.Ln.cr (Go.Ab.Ch.ln ch)) (Go.Ab.Ln.code (Go.Ab.Ch.ln ch))) (Go.Ab.Ch.pos ch) (Go.Ab.Ch.left ch) (Go.Ab.Ch.all ch) (Go.Ab.Ch.tails ch) (Go.Ab.Ch.code ch)) (UInt8.ofNat (Int.toNat k)))));let y0:=I.hid (α:=(Prop)) (zA (Go.Ab.Rq.mk (Go.Ab.Ln.mk (Go.Ab.Ln.b ln) (Go.Ab.Ln.cr ln) (Go.Ab.Ln.code ln)) p (Hd.mk m tg hm hf hl) le (Option.some (Go.Ab.Ch.mk (Go.Ab.Ln.mk y8 y7 y6) y12 y10 y13 y9 y11)) Bool.true out));let y19:=I.hid (α:=Str) (Go.Ab.Ln.b (Prod.fst (lnF (Go.Ab.Ln.mk (Go.Ab.Ln.b ln) (Go.Ab.Ln.cr ln) (Go.Ab.Ln.code ln)) (UInt8.ofNat (Int.toNat k)))));let y18:=I.hid (α:=Bool) (Go.Ab.Ln.cr (Prod.fst (lnF (Go.Ab.Ln.mk (Go.Ab.Ln.b ln) (Go.Ab.Ln.cr ln) (Go.Ab.Ln.code ln)) (UInt8.ofNat (Int.toNat k)))));let y17:=I.hid (α:=Int) (Go.Ab.Ln.code (Prod.fst (lnF (Go.Ab.Ln.mk (Go.Ab.Ln.b ln) (Go.Ab.Ln.cr ln) (Go.Ab.Ln.code ln)) (UInt8.ofNat (Int.toNat k)))));let y1:=I.hid (α:=Go.Ab.Rq) (Prod.fst (zG (Go.Ab.Rq.mk (Go.Ab.Ln.mk y19 y18 y17) p (Hd.mk m tg hm hf hl) le (Option.some (Go.Ab.Ch.mk (Go.Ab.Ln.mk (Go.Ab.Ln.b (Go.Ab.Ch.ln ch)) (Go.Ab.Ln.cr (Go.Ab.Ch.ln ch)) (Go.Ab.Ln.code (Go.Ab.Ch.ln ch))) (Go.Ab.Ch.pos ch) (Go.Ab.Ch.left ch) (Go.Ab.Ch.all ch) (Go.Ab.Ch.tails ch) (Go.Ab.Ch.code ch))) Bool.true out) (I.hid (α:=Str) (Prod.fst (Prod.snd (lnF (Go.Ab.Ln.mk (Go.Ab.Ln.b ln) (Go.Ab.Ln.cr ln) (Go.Ab.Ln.code ln)) (UInt8.ofNat (Int.toNat k))))))));let y2:=I.hid (α:=Go.Ab.Rq) (zX (Go.Ab.Rq.mk (Go.Ab.Ln.mk y19 y18 y17) p (Hd.mk m tg hm hf hl) le (Option.some (Go.Ab.Ch.mk (Go.Ab.Ln.mk (Go.Ab.Ln.b (Go.Ab.Ch.ln ch)) (Go.Ab.Ln.cr (Go.Ab.Ch.ln ch)) (Go.Ab.Ln.code (Go.Ab.Ch.ln ch))) (Go.Ab.Ch.pos ch) (Go.Ab.Ch.left ch) (Go.Ab.Ch.all ch) (Go.Ab.Ch.tails ch) (Go.Ab.Ch.code ch))) Bool.true out) (I.hid (α:=Int) (Prod.snd (Prod.snd (Prod.snd (lnF (Go.Ab.Ln.mk (Go.Ab.Ln.b ln) (Go.Ab.Ln.cr ln) (Go.Ab.Ln.code ln)) (UInt8.ofNat (Int.toNat k))))))));let y3:=I.hid (α:=Int) (Prod.snd (zG (Go.Ab.Rq.mk (Go.Ab.Ln.mk y19 y18 y17) p (Hd.mk m tg hm hf hl) le (Option.some (Go.Ab.Ch.mk (Go.Ab.Ln.mk (Go.Ab.Ln.b (Go.Ab.Ch.ln ch)) (Go.Ab.Ln.cr (Go.Ab.Ch.ln ch)) (Go.Ab.Ln.code (Go.Ab.Ch.ln ch))) (Go.Ab.Ch.pos ch) (Go.Ab.Ch.left ch) (Go.Ab.Ch.all ch) (Go.Ab.Ch.tails ch) (Go.Ab.Ch.code ch))) Bool.true out) (I.hid (α:=Str) (Prod.fst (Prod.snd (lnF (Go.Ab.Ln.mk (Go.Ab.Ln.b ln) (Go.Ab.Ln.cr ln) (Go.Ab.Ln.code ln)) (UInt8.ofNat (Int.toNat k))))))));let y4:=I.hid (α:=(Prop)) (zA (Go.Ab.Rq.mk (Go.Ab.Ln.mk y19 y18 y17) p (Hd.mk m tg hm hf hl) le (Option.some (Go.Ab.Ch.mk (Go.Ab.Ln.mk (Go.Ab.Ln.b (Go.Ab.Ch.ln ch)) (Go.Ab.Ln.cr (Go.Ab.Ch.ln ch)) (Go.Ab.Ln.code (Go.Ab.Ch.ln ch))) (Go.Ab.Ch.pos ch) (Go.Ab.Ch.left ch) (Go.Ab.Ch.all ch) (Go.Ab.Ch.tails ch) (Go.Ab.Ch.code ch))) Bool.true out));let y5:=I.hid (α:=(Prop)) (And (xh (Go.Ab.Rq.mk (Go.Ab.Ln.mk y19 y18 y17) p (Hd.mk m tg hm hf hl) le (Option.some (Go.Ab.Ch.mk (Go.Ab.Ln.mk (Go.Ab.Ln.b (Go.Ab.Ch.ln ch)) (Go.Ab.Ln.cr (Go.Ab.Ch.ln ch)) (Go.Ab.Ln.code (Go.Ab.Ch.ln ch))) (Go.Ab.Ch.pos ch) (Go.Ab.Ch.left ch) (Go.Ab.Ch.all ch) (Go.Ab.Ch.tails ch) (Go.Ab.Ch.code ch))) Bool.true out)) (And (rqFs (Go.Ab.Rq.mk (Go.Ab.Ln.mk y19 y18 y17) p (Hd.mk m tg hm hf hl) le (Option.some (Go.Ab.Ch.mk (Go.Ab.Ln.mk (Go.Ab.Ln.b (Go.Ab.Ch.ln ch)) (Go.Ab.Ln.cr (Go.Ab.Ch.ln ch)) (Go.Ab.Ln.code (Go.Ab.Ch.ln ch))) (Go.Ab.Ch.pos ch) (Go.Ab.Ch.left ch) (Go.Ab.Ch.all ch) (Go.Ab.Ch.tails ch) (Go.Ab.Ch.code ch))) Bool.true out)) (LE.le (List.length (I.hid (α:=Str) (Prod.fst (Prod.snd (lnF (Go.Ab.Ln.mk (Go.Ab.Ln.b ln) (Go.Ab.Ln.cr ln) (Go.Ab.Ln.code ln)) (UInt8.ofNat (Int.toNat k))))))) 1000000)));let y14:=I.hid (α:=(List Go.Ab.Evt)) (HAppend.hAppend out ([(Go.Ab.Evt.mk (2:Int) (Hd.mk ([]:Str) ([]:Str) (0:Int) ([]:List Fld) (0:Int)) (I.hid (α:=Str) (Prod.fst (Prod.snd (chF (Go.Ab.Ch.mk (Go.Ab.Ln.mk (Go.Ab.Ln.b (Go.Ab.Ch.ln ch)) (Go.Ab.Ln.cr (Go.Ab.Ch.ln ch)) (Go.Ab.Ln.code (Go.Ab.Ch.ln ch))) (Go.Ab.Ch.pos ch) (Go.Ab.Ch.left ch) (Go.Ab.Ch.all ch) (Go.Ab.Ch.tails ch) (Go.Ab.Ch.code ch)) (UInt8.ofNat (Int.toNat k)))))) (Go.Ab.Prt.mk ([]:Str) ([]:Str) ([]:Str) ([]:Str)) (0:Int))]:List Go.Ab.Evt));let y15:=I.ieq (I.hid (α:=Int) (Prod.snd (Prod.snd (Prod.snd (lnF (Go.Ab.Ln.mk (Go.Ab.Ln.b ln) (Go.Ab.Ln.cr ln) (Go.Ab.Ln.code ln)) (UInt8.ofNat (Int.toNat k))))))) 0;let y16:=I.hid (α:=(List Go.Ab.Evt)) (HAppend.hAppend out ([(Go.Ab.Evt.mk (2:Int) (Hd.mk ([]:Str) ([]:Str) (0:Int) ([]:List Fld) (0:Int)) ([(I.i2b k)]:Str) (Go.Ab.Prt.mk ([]:Str) ([]:Str) ([]:Str) ([]:Str)) (0:Int))]:List Go.Ab.Evt));let y20:=I.hid (α:=Bool) (Prod.fst (Prod.snd (Prod.snd (chF (Go.Ab.Ch.mk (Go.Ab.Ln.mk (Go.Ab.Ln.b (Go.Ab.Ch.ln ch)) (Go.Ab.Ln.cr (Go.Ab.Ch.ln ch)) (Go.Ab.Ln.code (Go.Ab.Ch.ln ch))) (Go.Ab.Ch.pos ch) (Go.Ab.Ch.left ch) (Go.Ab.Ch.all ch) (Go.Ab.Ch.tails ch) (Go.Ab.Ch.code ch)) (UInt8.ofNat (Int.toNat k))))));let y21:=I.hid (α:=Int) (Prod.snd (Prod.snd (Prod.snd (chF (Go.Ab.Ch.mk (Go.Ab.Ln.mk (Go.Ab.Ln.b (Go.Ab.Ch.ln ch)) (Go.Ab.Ln.cr (Go.Ab.Ch.ln ch)) (Go.Ab.Ln.code (Go.Ab.Ch.ln ch))) (Go.Ab.Ch.pos ch) (Go.Ab.Ch.left ch) (Go.Ab.Ch.all ch) (Go.Ab.Ch.tails ch) (Go.Ab.Ch.code ch)) (UInt8.ofNat (Int.toNat k))))));let y22:=I.hid (α:=Bool) (Prod.fst (Prod.snd (Prod.snd (lnF (Go.Ab.Ln.mk (Go.Ab.Ln.b ln) (Go.Ab.Ln.cr ln) (Go.Ab.Ln.code ln)) (UInt8.ofNat (Int.toNat k))))));let y23:=I.hid (α:=(Prop)) (And (LE.le (0:Int) k) (And (LE.le k (255:Int)) (LE.le (List.length (Go.Ab.Ln.b ln)) 1000000)));let y24:=I.hid (α:=Go.Ab.Rq) (zX y1 y3);.br (I.ieq p 2) (.need (I.inr Go.IntKind.u8 k) (.need (I.hid (α:=(Prop)) (zA (Go.Ab.Rq.mk (Go.Ab.Ln.mk (Go.Ab.Ln.b ln) (Go.Ab.Ln.cr ln) (Go.Ab.Ln.code ln)) p (Hd.mk m tg hm hf hl) le (Option.some (Go.Ab.Ch.mk (Go.Ab.Ln.mk (Go.Ab.Ln.b (Go.Ab.Ch.ln ch)) (Go.Ab.Ln.cr (Go.Ab.Ch.ln ch)) (Go.Ab.Ln.code (Go.Ab.Ch.ln ch))) (Go.Ab.Ch.pos ch) (Go.Ab.Ch.left ch) (Go.Ab.Ch.all ch) (Go.Ab.Ch.tails ch) (Go.Ab.Ch.code ch))) Bool.true out))) (.need (I.inr Go.IntKind.i64 (I.sub le 1)) (.br (I.ieq (I.sub le 1) 0) (.need (I.hid (α:=(Prop)) (zA (Go.Ab.Rq.mk (Go.Ab.Ln.mk (Go.Ab.Ln.b ln) (Go.Ab.Ln.cr ln) (Go.Ab.Ln.code ln)) p (Hd.mk m tg hm hf hl) (I.sub le 1) (Option.some (Go.Ab.Ch.mk (Go.Ab.Ln.mk (Go.Ab.Ln.b (Go.Ab.Ch.ln ch)) (Go.Ab.Ln.cr (Go.Ab.Ch.ln ch)) (Go.Ab.Ln.code (Go.Ab.Ch.ln ch))) (Go.Ab.Ch.pos ch) (Go.Ab.Ch.left ch) (Go.Ab.Ch.all ch) (Go.Ab.Ch.tails ch) (Go.Ab.Ch.code ch))) Bool.true y16))) (.fin (.ret (.tup [])) [(.abs (.rq (I.hid (α:=Go.Ab.Rq) (yP (Go.Ab.Rq.mk (Go.Ab.Ln.mk (Go.Ab.Ln.b ln) (Go.Ab.Ln.cr ln) (Go.Ab.Ln.code ln)) p (Hd.mk m tg hm hf hl) (I.sub le 1) (Option.some (Go.Ab.Ch.mk (Go.Ab.Ln.mk (Go.Ab.Ln.b (Go.Ab.Ch.ln ch)) (Go.Ab.Ln.cr (Go.Ab.Ch.ln ch)) (Go.Ab.Ln.code (Go.Ab.Ch.ln ch))) (Go.Ab.Ch.pos ch) (Go.Ab.Ch.left ch) (Go.Ab.Ch.all ch) (Go.Ab.Ch.tails ch) (Go.Ab.Ch.code ch))) Bool.true y16)))))])) (.fin (.ret (.tup [])) [(.abs (.rq (Go.Ab.Rq.mk (Go.Ab.Ln.mk (Go.Ab.Ln.b ln) (Go.Ab.Ln.cr ln) (Go.Ab.Ln.code ln)) p (Hd.mk m tg hm hf hl) (I.sub le 1) (Option.some (Go.Ab.Ch.mk (Go.Ab.Ln.mk (Go.Ab.Ln.b (Go.Ab.Ch.ln ch)) (Go.Ab.Ln.cr (Go.Ab.Ch.ln ch)) (Go.Ab.Ln.code (Go.Ab.Ch.ln ch))) (Go.Ab.Ch.pos ch) (Go.Ab.Ch.left ch) (Go.Ab.Ch.all ch) (Go.Ab.Ch.tails ch) (Go.Ab.Ch.code ch))) Bool.true y16)))]))))) (.br (I.ieq p 3) (.need (I.hid (α:=(Prop)) (And (And (LE.le (0:Int) k) (LE.le k (255:Int))) (And (LE.le (List.length (Go.Ab.Ln.b (Go.Ab.Ch.ln ch))) 1000000) (And (And (LE.le (Neg.neg (1000000:Int)) (Go.Ab.Ch.left ch)) (LE.le (Go.Ab.Ch.left ch) (100000000:Int))) (And (And (LE.le (0:Int) (Go.Ab.Ch.all ch)) (LE.le (Go.Ab.Ch.all ch) (1000000:Int))) (And (LE.le (0:Int) (Go.Ab.Ch.tails ch)) (LE.le (Go.Ab.Ch.tails ch) (1000000:Int)))))))) (.br (I.bnot (I.ieq y21 0)) (.need y0 (.fin (.ret (.tup [])) [(.abs (.rq (I.hid (α:=Go.Ab.Rq) (zX (Go.Ab.Rq.mk (Go.Ab.Ln.mk (Go.Ab.Ln.b ln) (Go.Ab.Ln.cr ln) (Go.Ab.Ln.code ln)) p (Hd.mk m tg hm hf hl) le (Option.some (Go.Ab.Ch.mk (Go.Ab.Ln.mk y8 y7 y6) y12 y10 y13 y9 y11)) Bool.true out) y21))))])) (.br (I.ilt 0 (I.len (α:=UInt8) (I.hid (α:=Str) (Prod.fst (Prod.snd (chF (Go.Ab.Ch.mk (Go.Ab.Ln.mk (Go.Ab.Ln.b (Go.Ab.Ch.ln ch)) (Go.Ab.Ln.cr (Go.Ab.Ch.ln ch)) (Go.Ab.Ln.code (Go.Ab.Ch.ln ch))) (Go.Ab.Ch.pos ch) (Go.Ab.Ch.left ch) (Go.Ab.Ch.all ch) (Go.Ab.Ch.tails ch) (Go.Ab.Ch.code ch)) (UInt8.ofNat (Int.toNat k)))))))) (.need y0 (.br y20 (.need (I.hid (α:=(Prop)) (zA (Go.Ab.Rq.mk (Go.Ab.Ln.mk (Go.Ab.Ln.b ln) (Go.Ab.Ln.cr ln) (Go.Ab.Ln.code ln)) p (Hd.mk m tg hm hf hl) le (Option.some (Go.Ab.Ch.mk (Go.Ab.Ln.mk y8 y7 y6) y12 y10 y13 y9 y11)) Bool.true y14))) (.fin (.ret (.tup [])) [(.abs (.rq (I.hid (α:=Go.Ab.Rq) (yP (Go.Ab.Rq.mk (Go.Ab.Ln.mk (Go.Ab.Ln.b ln) (Go.Ab.Ln.cr ln) (Go.Ab.Ln.code ln)) p (Hd.mk m tg hm hf hl) le (Option.some (Go.Ab.Ch.mk (Go.Ab.Ln.mk y8 y7 y6) y12 y10 y13 y9 y11)) Bool.true y14)))))])) (.fin (.ret (.tup [])) [(.abs (.rq (Go.Ab.Rq.mk (Go.Ab.Ln.mk (Go.Ab.Ln.b ln) (Go.Ab.Ln.cr ln) (Go.Ab.Ln.code ln)) p (Hd.mk m tg hm hf hl) le (Option.some (Go.Ab.Ch.mk (Go.Ab.Ln.mk y8 y7 y6) y12 y10 y13 y9 y11)) Bool.true y14)))]))) (.br y20 (.need y0 (.fin (.ret (.tup [])) [(.abs (.rq (I.hid (α:=Go.Ab.Rq) (yP (Go.Ab.Rq.mk (Go.Ab.Ln.mk (Go.Ab.Ln.b ln) (Go.Ab.Ln.cr ln) (Go.Ab.Ln.code ln)) p (Hd.mk m tg hm hf hl) le (Option.some (Go.Ab.Ch.mk (Go.Ab.Ln.mk y8 y7 y6) y12 y10 y13 y9 y11)) Bool.true out)))))])) (.fin (.ret (.tup [])) [(.abs (.rq (Go.Ab.Rq.mk (Go.Ab.Ln.mk (Go.Ab.Ln.b ln) (Go.Ab.Ln.cr ln) (Go.Ab.Ln.code ln)) p (Hd.mk m tg hm hf hl) le (Option.some (Go.Ab.Ch.mk (Go.Ab.Ln.mk y8 y7 y6) y12 y10 y13 y9 y11)) Bool.true out)))]))))) (.br (I.ieq p 0) (.need y23 (.br y15 (.br y22 (.need y5 (.br (I.bnot (I.ieq y3 0)) (.need (I.hid (α:=(Prop)) (zA y1)) (.fin (.ret (.tup [])) [(.abs (.rq y24))])) (.fin (.ret (.tup [])) [(.abs (.rq y1))]))) (.br (I.bnot y15) (.need y4 (.fin (.ret (.tup [])) [(.abs (.rq y2))])) (.fin (.ret (.tup [])) [(.abs (.rq (Go.Ab.Rq.mk (Go.Ab.Ln.mk y19 y18 y17) p (Hd.mk m tg hm hf hl) le (Option.some (Go.Ab.Ch.mk (Go.Ab.Ln.mk (Go.Ab.Ln.b (Go.Ab.Ch.ln ch)) (Go.Ab.Ln.cr (Go.Ab.Ch.ln ch)) (Go.Ab.Ln.code (Go.Ab.Ch.ln ch))) (Go.Ab.Ch.pos ch) (Go.Ab.Ch.left ch) (Go.Ab.Ch.all ch) (Go.Ab.Ch.tails ch) (Go.Ab.Ch.code ch))) Bool.true out)))]))) (.br (I.bnot y15) (.need y4 (.fin (.ret (.tup [])) [(.abs (.rq y2))])) (.fin (.ret (.tup [])) [(.abs (.rq (Go.Ab.Rq.mk (Go.Ab.Ln.mk y19 y18 y17) p (Hd.mk m tg hm hf hl) le (Option.some (Go.Ab.Ch.mk (Go.Ab.Ln.mk (Go.Ab.Ln.b (Go.Ab.Ch.ln ch)) (Go.Ab.Ln.cr (Go.Ab.Ch.ln ch)) (Go.Ab.Ln.code (Go.Ab.Ch.ln ch))) (Go.Ab.Ch.pos ch) (Go.Ab.Ch.left ch) (Go.Ab.Ch.all ch) (Go.Ab.Ch.tails ch) (Go.Ab.Ch.code ch))) Bool.true out)))])))) (.br (I.ieq p 1) (.need y23 (.br y15 (.br y22 (.need y5 (.br (I.bnot (I.ieq y3 0)) (.need (I.hid (α:=(Prop)) (zA y1)) (.fin (.ret (.tup [])) [(.abs (.rq y24))])) (.fin (.ret (.tup [])) [(.abs (.rq y1))]))) (.br (I.bnot y15) (.need y4 (.fin (.ret (.tup [])) [(.abs (.rq y2))])) (.fin (.ret (.tup [])) [(.abs (.rq (Go.Ab.Rq.mk (Go.Ab.Ln.mk y19 y18 y17) p (Hd.mk m tg hm hf hl) le (Option.some (Go.Ab.Ch.mk (Go.Ab.Ln.mk (Go.Ab.Ln.b (Go.Ab.Ch.ln ch)) (Go.Ab.Ln.cr (Go.Ab.Ch.ln ch)) (Go.Ab.Ln.code (Go.Ab.Ch.ln ch))) (Go.Ab.Ch.pos ch) (Go.Ab.Ch.left ch) (Go.Ab.Ch.all ch) (Go.Ab.Ch.tails ch) (Go.Ab.Ch.code ch))) Bool.true out)))]))) (.br (I.bnot y15) (.need y4 (.fin (.ret (.tup [])) [(.abs (.rq y2))])) (.fin (.ret (.tup [])) [(.abs (.rq (Go.Ab.Rq.mk (Go.Ab.Ln.mk y19 y18 y17) p (Hd.mk m tg hm hf hl) le (Option.some (Go.Ab.Ch.mk (Go.Ab.Ln.mk (Go.Ab.Ln.b (Go.Ab.Ch.ln ch)) (Go.Ab.Ln.cr (Go.Ab.Ch.ln ch)) (Go.Ab.Ln.code (Go.Ab.Ch.ln ch))) (Go.Ab.Ch.pos ch) (Go.Ab.Ch.left ch) (Go.Ab.Ch.all ch) (Go.Ab.Ch.tails ch) (Go.Ab.Ch.code ch))) Bool.true out)))])))) (.fin (.ret (.tup [])) [(.abs (.rq (Go.Ab.Rq.mk (Go.Ab.Ln.mk (Go.Ab.Ln.b ln) (Go.Ab.Ln.cr ln) (Go.Ab.Ln.code ln)) p (Hd.mk m tg hm hf hl) le (Option.some (Go.Ab.Ch.mk (Go.Ab.Ln.mk (Go.Ab.Ln.b (Go.Ab.Ch.ln ch)) (Go.Ab.Ln.cr (Go.Ab.Ch.ln ch)) (Go.Ab.Ln.code (Go.Ab.Ch.ln ch))) (Go.Ab.Ch.pos ch) (Go.Ab.Ch.left ch) (Go.Ab.Ch.all ch) (Go.Ab.Ch.tails ch) (Go.Ab.Ch.code ch))) Bool.true out)))]))))) (by kernel_rfl) ?_
  simp only [zC]
  subst hI
  unfold rqF at hr
  simp only at hr
  simp only [nrmA,nrmB,nrlB,reduceCtorEq,HO.abs.injEq,Gh.rq.injEq,Rq.mk.injEq]
  generalize UInt8.ofNat k.toNat=c at *
  have hni:=zcS (g2 ch rfl) hi
  have hz:chF ⟨⟨ch.ln.b,ch.ln.cr,ch.ln.code⟩,ch.pos,ch.left,ch.all,ch.tails,ch.code⟩ c=chF ch c:=rfl
  have hck:ckOf ⟨ln,p,⟨m,tg,hm,hf,hl⟩,le,some ch,true,out⟩=ch:=rfl
  simp only [hz]
  rw [hck] at hr
  clear hz hck
  have hz2:lnF ⟨ln.b,ln.cr,ln.code⟩ c=lnF ln c:=rfl
  simp only [hz2]
  clear hz2 g2
  by_cases q1:p=2
  · rw [if_pos q1] at hr
    have h9:=g9 q1
    by_cases q2:le - 1=0
    · rw [if_pos q2] at hr
      subst hr
      have q3:le=1:=by omega
      subst q3
      (repeat' (first|refine And.intro ?_ ?_|intro _))<;>first|omega|exact True.intro|exact False.elim ‹False›|skip
      all_goals first|omega|rfl|(unfold zA;simp;omega)|(unfold zA;simp only;omega)|trace_state
    · rw [if_neg q2] at hr
      subst hr
      (repeat' (first|refine And.intro ?_ ?_|intro _))<;>first|omega|exact True.intro|exact False.elim ‹False›|skip
      all_goals first|omega|rfl|(unfold zA;simp;omega)|(unfold zA;simp only;omega)|trace_state
  rw [if_neg q1] at hr
  by_cases q4:p=3
  · rw [if_pos q4] at hr
    generalize chF ch c=z at *
    obtain⟨⟨⟨zb,zc,zo⟩,z1,z2,z3,z4,z5⟩,d,ov,e⟩:=z
    simp only at hr ⊢
    have hd0:d.length=0↔d=[]:=List.length_eq_zero_iff
    by_cases q5:e=0
    · rw [if_neg (fun h=>h q5)] at hr
      cases ov with
      | true=>
        rw [if_pos rfl] at hr
        by_cases q6:d=[]
        · rw [if_neg (fun h=>h q6)] at hr
          have q7:=hd0.2 q6
          subst hr
          (repeat' (first|refine And.intro ?_ ?_|intro _))<;>first|omega|exact True.intro|exact False.elim ‹False›|skip
          all_goals first|omega|rfl|(unfold zA;simp;omega)|(unfold zA;simp only;omega)|contradiction|exact⟨⟨hk0,hk1⟩,hni⟩|trace_state
        · rw [if_pos q6] at hr
          have q7: ¬ d.length=0:=fun h=>q6 (hd0.1 h)
          subst hr
          (repeat' (first|refine And.intro ?_ ?_|intro _))<;>first|omega|exact True.intro|exact False.elim ‹False›|skip
          all_goals first|omega|rfl|(unfold zA;simp;omega)|(unfold zA;simp only;omega)|contradiction|exact⟨⟨hk0,hk1⟩,hni⟩|trace_state
      | false=>
        rw [if_neg Bool.false_ne_true] at hr
        by_cases q6:d=[]
        · rw [if_neg (fun h=>h q6)] at hr
          have q7:=hd0.2 q6
          subst hr
          (repeat' (first|refine And.intro ?_ ?_|intro _))<;>first|omega|exact True.intro|exact False.elim ‹False›|skip
          all_goals first|omega|rfl|(unfold zA;simp;omega)|(unfold zA;simp only;omega)|contradiction|exact⟨⟨hk0,hk1⟩,hni⟩|trace_state
        · rw [if_pos q6] at hr
          have q7: ¬ d.length=0:=fun h=>q6 (hd0.1 h)
          subst hr
          (repeat' (first|refine And.intro ?_ ?_|intro _))<;>first|omega|exact True.intro|exact False.elim ‹False›|skip
          all_goals first|omega|rfl|(unfold zA;simp;omega)|(unfold zA;simp only;omega)|contradiction|exact⟨⟨hk0,hk1⟩,hni⟩|trace_state
    · rw [if_pos q5] at hr
      subst hr
      (repeat' (first|refine And.intro ?_ ?_|intro _))<;>first|omega|exact True.intro|exact False.elim ‹False›|skip
      all_goals first|omega|rfl|(unfold zA;simp;omega)|(unfold zA;simp only;omega)|contradiction|exact⟨⟨hk0,hk1⟩,hni⟩|trace_state
  rw [if_neg q4] at hr
  by_cases q8:p=0∨p=1
  · rw [if_pos q8] at hr
    have hl: ∀ (l:Ln) (s:Str),zG ⟨⟨l.b,l.cr,l.code⟩,p,⟨m,tg,hm,hf,hl⟩,le,some ch,true,out⟩ s=zG ⟨l,p,⟨m,tg,hm,hf,hl⟩,le,some ch,true,out⟩ s:=fun l s=>rfl
    simp only [hl]
    clear hl
    generalize lnF ln c=z at *
    obtain⟨l2,s,is,e⟩:=z
    simp only at hr hll ⊢
    have hlo:(zG ⟨l2,p,⟨m,tg,hm,hf,hl⟩,le,some ch,true,out⟩ s).1.out.length≤out.length+2:=V4 _ _
    generalize zG ⟨l2,p,⟨m,tg,hm,hf,hl⟩,le,some ch,true,out⟩ s=y at *
    obtain⟨y,ye⟩:=y
    simp only at hr hlo ⊢
    by_cases q5:e=0
    · rw [if_neg (fun h=>h q5)] at hr
      cases is with
      | true=>
        rw [if_pos rfl] at hr
        by_cases q6:ye=0
        · rw [if_neg (fun h=>h q6)] at hr
          subst hr
          (repeat' (first|refine And.intro ?_ ?_|intro _))<;>first|omega|exact True.intro|exact False.elim ‹False›|skip
          all_goals first|omega|rfl|contradiction|exact⟨rfl,⟨hfs,by simp only;omega⟩,by omega⟩|(simp only [xh];done)|exact hfs.1|(exact(hfs.2 _ ‹_›).1)|(exact(hfs.2 _ ‹_›).2)|(unfold zA;omega)|(simp only;omega)|trace_state
        · rw [if_pos q6] at hr
          subst hr
          (repeat' (first|refine And.intro ?_ ?_|intro _))<;>first|omega|exact True.intro|exact False.elim ‹False›|skip
          all_goals first|omega|rfl|contradiction|exact⟨rfl,⟨hfs,by simp only;omega⟩,by omega⟩|(simp only [xh];done)|exact hfs.1|(exact(hfs.2 _ ‹_›).1)|(exact(hfs.2 _ ‹_›).2)|(unfold zA;omega)|(simp only;omega)|trace_state
      | false=>
        rw [if_neg Bool.false_ne_true] at hr
        subst hr
        (repeat' (first|refine And.intro ?_ ?_|intro _))<;>first|omega|exact True.intro|exact False.elim ‹False›|skip
        all_goals first|omega|rfl|contradiction|trace_state
    · rw [if_pos q5] at hr
      subst hr
      (repeat' (first|refine And.intro ?_ ?_|intro _))<;>first|omega|exact True.intro|exact False.elim ‹False›|skip
      all_goals first|omega|rfl|contradiction|(unfold zA;simp only;omega)|trace_state
  rw [if_neg q8] at hr
  subst hr
  (repeat' (first|refine And.intro ?_ ?_|intro _))<;>first|omega|exact True.intro|exact False.elim ‹False›|skip
  all_goals first|omega|rfl|contradiction|trace_state
theorem zeQ (ln:Ln) (p:Int) (m tg:Str) (hm:Int) (hf:List Fld) (hl le:Int) (ch:Ch) (out:List Evt) (k:Int) (hneed:rqN ⟨ln,p,⟨m,tg,hm,hf,hl⟩,le,some ch,false,out⟩∧0≤k∧k≤255):Spc Tryz.prog 22 [.v (.one (.ptr 0 0)),.v (.one (.p (.int .u8 k)))] [.abs (.rq ⟨ln,p,⟨m,tg,hm,hf,hl⟩,le,some ch,false,out⟩)] (.ret (.tup [])) [.abs (.rq ((rqF ⟨ln,p,⟨m,tg,hm,hf,hl⟩,le,some ch,false,out⟩ (UInt8.ofNat k.toNat))))]:=by
  obtain⟨⟨i,hi,hI0⟩,hk0,hk1⟩:=hneed
  obtain⟨g1,g2,g3,g4,g5,g6,g7,g8,g9,g10⟩:=hI0
  simp only at g1 g2 g3 g4 g5 g6 g7 g8 g9 g10
  have hfs:FsOk hf:=⟨by omega,fun f hm=>by have:=g6 f hm;omega⟩
  have hll:=YL ln (UInt8.ofNat k.toNat)
  generalize hr:rqF ⟨ln,p,⟨m,tg,hm,hf,hl⟩,le,some ch,false,out⟩ (UInt8.ofNat k.toNat)=r
  refine spcG zu mixed Tryz.func22 (by kernel_rfl) { cfgQ with fz:=[45],keep:=some [0,1,4,5,6,7,8,9,13,62]} [sU,sS,Z9,Z8,XT,XR,zT,zS,zZ,zY,yj,yh,yB,yA,xC,xB,Zv,Zu,rX,rW,Zn,Zm] (by kernel_rfl) ?_
  intro I X hI hX
  refine zh (let y8:=I.hid (α:=Str) (Go.Ab.Ln.b (Go.Ab.Ch.ln (Prod.fst (chF (Go.Ab.Ch.mk (Go.Ab.Ln.mk (Go.Ab.Ln.b (Go.Ab.Ch.ln ch)) (Go.Ab.Ln.cr (Go.Ab.Ch.ln ch)) (Go.Ab.Ln.code (Go.Ab.Ch.ln ch))) (Go.Ab.Ch.pos ch) (Go.Ab.Ch.left ch) (Go.Ab.Ch.all ch) (Go.Ab.Ch.tails ch) (Go.Ab.Ch.code ch)) (UInt8.ofNat (Int.toNat k))))));let y7:=I.hid (α:=Bool) (Go.Ab.Ln.cr (Go.Ab.Ch.ln (Prod.fst (chF (Go.Ab.Ch.mk (Go.Ab.Ln.mk (Go.Ab.Ln.b (Go.Ab.Ch.ln ch)) (Go.Ab.Ln.cr (Go.Ab.Ch.ln ch)) (Go.Ab.Ln.code (Go.Ab.Ch.ln ch))) (Go.Ab.Ch.pos ch) (Go.Ab.Ch.left ch) (Go.Ab.Ch.all ch) (Go.Ab.Ch.tails ch) (Go.Ab.Ch.code ch)) (UInt8.ofNat (Int.toNat k))))));let y6:=I.hid (α:=Int) (Go.Ab.Ln.code (Go.Ab.Ch.ln (Prod.fst (chF (Go.Ab.Ch.mk (Go.Ab.Ln.mk (Go.Ab.Ln.b (Go.Ab.Ch.ln ch)) (Go.Ab.Ln.cr (Go.Ab.Ch.ln ch)) (Go.Ab.Ln.code (Go.Ab.Ch.ln ch))) (Go.Ab.Ch.pos ch) (Go.Ab.Ch.left ch) (Go.Ab.Ch.all ch) (Go.Ab.Ch.tails ch) (Go.Ab.Ch.code ch)) (UInt8.ofNat (Int.toNat k))))));let y12:=I.hid (α:=Int) (Go.Ab.Ch.pos (Prod.fst (chF (Go.Ab.Ch.mk (Go.Ab.Ln.mk (Go.Ab.Ln.b (Go.Ab.Ch.ln ch)) (Go.Ab.Ln.cr (Go.Ab.Ch.ln ch)) (Go.Ab.Ln.code (Go.Ab.Ch.ln ch))) (Go.Ab.Ch.pos ch) (Go.Ab.Ch.left ch) (Go.Ab.Ch.all ch) (Go.Ab.Ch.tails ch) (Go.Ab.Ch.code ch)) (UInt8.ofNat (Int.toNat k)))));let y10:=I.hid (α:=Int) (Go.Ab.Ch.left (Prod.fst (chF (Go.Ab.Ch.mk (Go.Ab.Ln.mk (Go.Ab.Ln.b (Go.Ab.Ch.ln ch)) (Go.Ab.Ln.cr (Go.Ab.Ch.ln ch)) (Go.Ab.Ln.code (Go.Ab.Ch.ln ch))) (Go.Ab.Ch.pos ch) (Go.Ab.Ch.left ch) (Go.Ab.Ch.all ch) (Go.Ab.Ch.tails ch) (Go.Ab.Ch.code ch)) (UInt8.ofNat (Int.toNat k)))));let y13:=I.hid (α:=Int) (Go.Ab.Ch.all (Prod.fst (chF (Go.Ab.Ch.mk (Go.Ab.Ln.mk (Go.Ab.Ln.b (Go.Ab.Ch.ln ch)) (Go.Ab.Ln.cr (Go.Ab.Ch.ln ch)) (Go.Ab.Ln.code (Go.Ab.Ch.ln ch))) (Go.Ab.Ch.pos ch) (Go.Ab.Ch.left ch) (Go.Ab.Ch.all ch) (Go.Ab.Ch.tails ch) (Go.Ab.Ch.code ch)) (UInt8.ofNat (Int.toNat k)))));let y9:=I.hid (α:=Int) (Go.Ab.Ch.tails (Prod.fst (chF (Go.Ab.Ch.mk (Go.Ab.Ln.mk (Go.Ab.Ln.b (Go.Ab.Ch.ln ch)) (Go.Ab.Ln.cr (Go.Ab.Ch.ln ch)) (Go.Ab.Ln.code (Go.Ab.Ch.ln ch))) (Go.Ab.Ch.pos ch) (Go.Ab.Ch.left ch) (Go.Ab.Ch.all ch) (Go.Ab.Ch.tails ch) (Go.Ab.Ch.code ch)) (UInt8.ofNat (Int.toNat k)))));let y11:=I.hid (α:=Int) (Go.Ab.Ch.code (Prod.fst (chF (Go.Ab.Ch.mk (Go.Ab.Ln.mk (Go.Ab.Ln.b (Go.Ab.Ch.ln ch)) (Go.Ab.Ln.cr (Go.Ab.Ch.ln ch)) (Go.Ab.Ln.code (Go.Ab.Ch.ln ch))) (Go.Ab.Ch.pos ch) (Go.Ab.Ch.left ch) (Go.Ab.Ch.all ch) (Go.Ab.Ch.tails ch) (Go.Ab.Ch.code ch)) (UInt8.ofNat (Int.toNat k)))));let y0:=I.hid (α:=(Prop)) (zA (Go.Ab.Rq.mk (Go.Ab.Ln.mk (Go.Ab.Ln.b ln) (Go.Ab.Ln.cr ln) (Go.Ab.Ln.code ln)) p (Hd.mk m tg hm hf hl) le (Option.some (Go.Ab.Ch.mk (Go.Ab.Ln.mk y8 y7 y6) y12 y10 y13 y9 y11)) Bool.false out));let y19:=I.hid (α:=Str) (Go.Ab.Ln.b (Prod.fst (lnF (Go.Ab.Ln.mk (Go.Ab.Ln.b ln) (Go.Ab.Ln.cr ln) (Go.Ab.Ln.code ln)) (UInt8.ofNat (Int.toNat k)))));let y18:=I.hid (α:=Bool) (Go.Ab.Ln.cr (Prod.fst (lnF (Go.Ab.Ln.mk (Go.Ab.Ln.b ln) (Go.Ab.Ln.cr ln) (Go.Ab.Ln.code ln)) (UInt8.ofNat (Int.toNat k)))));let y17:=I.hid (α:=Int) (Go.Ab.Ln.code (Prod.fst (lnF (Go.Ab.Ln.mk (Go.Ab.Ln.b ln) (Go.Ab.Ln.cr ln) (Go.Ab.Ln.code ln)) (UInt8.ofNat (Int.toNat k)))));let y1:=I.hid (α:=Go.Ab.Rq) (Prod.fst (zG (Go.Ab.Rq.mk (Go.Ab.Ln.mk y19 y18 y17) p (Hd.mk m tg hm hf hl) le (Option.some (Go.Ab.Ch.mk (Go.Ab.Ln.mk (Go.Ab.Ln.b (Go.Ab.Ch.ln ch)) (Go.Ab.Ln.cr (Go.Ab.Ch.ln ch)) (Go.Ab.Ln.code (Go.Ab.Ch.ln ch))) (Go.Ab.Ch.pos ch) (Go.Ab.Ch.left ch) (Go.Ab.Ch.all ch) (Go.Ab.Ch.tails ch) (Go.Ab.Ch.code ch))) Bool.false out) (I.hid (α:=Str) (Prod.fst (Prod.snd (lnF (Go.Ab.Ln.mk (Go.Ab.Ln.b ln) (Go.Ab.Ln.cr ln) (Go.Ab.Ln.code ln)) (UInt8.ofNat (Int.toNat k))))))));let y2:=I.hid (α:=Go.Ab.Rq) (zX (Go.Ab.Rq.mk (Go.Ab.Ln.mk y19 y18 y17) p (Hd.mk m tg hm hf hl) le (Option.some (Go.Ab.Ch.mk (Go.Ab.Ln.mk (Go.Ab.Ln.b (Go.Ab.Ch.ln ch)) (Go.Ab.Ln.cr (Go.Ab.Ch.ln ch)) (Go.Ab.Ln.code (Go.Ab.Ch.ln ch))) (Go.Ab.Ch.pos ch) (Go.Ab.Ch.left ch) (Go.Ab.Ch.all ch) (Go.Ab.Ch.tails ch) (Go.Ab.Ch.code ch))) Bool.false out) (I.hid (α:=Int) (Prod.snd (Prod.snd (Prod.snd (lnF (Go.Ab.Ln.mk (Go.Ab.Ln.b ln) (Go.Ab.Ln.cr ln) (Go.Ab.Ln.code ln)) (UInt8.ofNat (Int.toNat k))))))));let y3:=I.hid (α:=Int) (Prod.snd (zG (Go.Ab.Rq.mk (Go.Ab.Ln.mk y19 y18 y17) p (Hd.mk m tg hm hf hl) le (Option.some (Go.Ab.Ch.mk (Go.Ab.Ln.mk (Go.Ab.Ln.b (Go.Ab.Ch.ln ch)) (Go.Ab.Ln.cr (Go.Ab.Ch.ln ch)) (Go.Ab.Ln.code (Go.Ab.Ch.ln ch))) (Go.Ab.Ch.pos ch) (Go.Ab.Ch.left ch) (Go.Ab.Ch.all ch) (Go.Ab.Ch.tails ch) (Go.Ab.Ch.code ch))) Bool.false out) (I.hid (α:=Str) (Prod.fst (Prod.snd (lnF (Go.Ab.Ln.mk (Go.Ab.Ln.b ln) (Go.Ab.Ln.cr ln) (Go.Ab.Ln.code ln)) (UInt8.ofNat (Int.toNat k))))))));let y4:=I.hid (α:=(Prop)) (zA (Go.Ab.Rq.mk (Go.Ab.Ln.mk y19 y18 y17) p (Hd.mk m tg hm hf hl) le (Option.some (Go.Ab.Ch.mk (Go.Ab.Ln.mk (Go.Ab.Ln.b (Go.Ab.Ch.ln ch)) (Go.Ab.Ln.cr (Go.Ab.Ch.ln ch)) (Go.Ab.Ln.code (Go.Ab.Ch.ln ch))) (Go.Ab.Ch.pos ch) (Go.Ab.Ch.left ch) (Go.Ab.Ch.all ch) (Go.Ab.Ch.tails ch) (Go.Ab.Ch.code ch))) Bool.false out));let y5:=I.hid (α:=(Prop)) (And (xh (Go.Ab.Rq.mk (Go.Ab.Ln.mk y19 y18 y17) p (Hd.mk m tg hm hf hl) le (Option.some (Go.Ab.Ch.mk (Go.Ab.Ln.mk (Go.Ab.Ln.b (Go.Ab.Ch.ln ch)) (Go.Ab.Ln.cr (Go.Ab.Ch.ln ch)) (Go.Ab.Ln.code (Go.Ab.Ch.ln ch))) (Go.Ab.Ch.pos ch) (Go.Ab.Ch.left ch) (Go.Ab.Ch.all ch) (Go.Ab.Ch.tails ch) (Go.Ab.Ch.code ch))) Bool.false out)) (And (rqFs (Go.Ab.Rq.mk (Go.Ab.Ln.mk y19 y18 y17) p (Hd.mk m tg hm hf hl) le (Option.some (Go.Ab.Ch.mk (Go.Ab.Ln.mk (Go.Ab.Ln.b (Go.Ab.Ch.ln ch)) (Go.Ab.Ln.cr (Go.Ab.Ch.ln ch)) (Go.Ab.Ln.code (Go.Ab.Ch.ln ch))) (Go.Ab.Ch.pos ch) (Go.Ab.Ch.left ch) (Go.Ab.Ch.all ch) (Go.Ab.Ch.tails ch) (Go.Ab.Ch.code ch))) Bool.false out)) (LE.le (List.length (I.hid (α:=Str) (Prod.fst (Prod.snd (lnF (Go.Ab.Ln.mk (Go.Ab.Ln.b ln) (Go.Ab.Ln.cr ln) (Go.Ab.Ln.code ln)) (UInt8.ofNat (Int.toNat k))))))) 1000000)));let y14:=I.hid (α:=(List Go.Ab.Evt)) (HAppend.hAppend out ([(Go.Ab.Evt.mk (2:Int) (Hd.mk ([]:Str) ([]:Str) (0:Int) ([]:List Fld) (0:Int)) (I.hid (α:=Str) (Prod.fst (Prod.snd (chF (Go.Ab.Ch.mk (Go.Ab.Ln.mk (Go.Ab.Ln.b (Go.Ab.Ch.ln ch)) (Go.Ab.Ln.cr (Go.Ab.Ch.ln ch)) (Go.Ab.Ln.code (Go.Ab.Ch.ln ch))) (Go.Ab.Ch.pos ch) (Go.Ab.Ch.left ch) (Go.Ab.Ch.all ch) (Go.Ab.Ch.tails ch) (Go.Ab.Ch.code ch)) (UInt8.ofNat (Int.toNat k)))))) (Go.Ab.Prt.mk ([]:Str) ([]:Str) ([]:Str) ([]:Str)) (0:Int))]:List Go.Ab.Evt));let y15:=I.ieq (I.hid (α:=Int) (Prod.snd (Prod.snd (Prod.snd (lnF (Go.Ab.Ln.mk (Go.Ab.Ln.b ln) (Go.Ab.Ln.cr ln) (Go.Ab.Ln.code ln)) (UInt8.ofNat (Int.toNat k))))))) 0;let y16:=I.hid (α:=(List Go.Ab.Evt)) (HAppend.hAppend out ([(Go.Ab.Evt.mk (2:Int) (Hd.mk ([]:Str) ([]:Str) (0:Int) ([]:List Fld) (0:Int)) ([(I.i2b k)]:Str) (Go.Ab.Prt.mk ([]:Str) ([]:Str) ([]:Str) ([]:Str)) (0:Int))]:List Go.Ab.Evt));let y20:=I.hid (α:=Bool) (Prod.fst (Prod.snd (Prod.snd (chF (Go.Ab.Ch.mk (Go.Ab.Ln.mk (Go.Ab.Ln.b (Go.Ab.Ch.ln ch)) (Go.Ab.Ln.cr (Go.Ab.Ch.ln ch)) (Go.Ab.Ln.code (Go.Ab.Ch.ln ch))) (Go.Ab.Ch.pos ch) (Go.Ab.Ch.left ch) (Go.Ab.Ch.all ch) (Go.Ab.Ch.tails ch) (Go.Ab.Ch.code ch)) (UInt8.ofNat (Int.toNat k))))));let y21:=I.hid (α:=Int) (Prod.snd (Prod.snd (Prod.snd (chF (Go.Ab.Ch.mk (Go.Ab.Ln.mk (Go.Ab.Ln.b (Go.Ab.Ch.ln ch)) (Go.Ab.Ln.cr (Go.Ab.Ch.ln ch)) (Go.Ab.Ln.code (Go.Ab.Ch.ln ch))) (Go.Ab.Ch.pos ch) (Go.Ab.Ch.left ch) (Go.Ab.Ch.all ch) (Go.Ab.Ch.tails ch) (Go.Ab.Ch.code ch)) (UInt8.ofNat (Int.toNat k))))));let y22:=I.hid (α:=Bool) (Prod.fst (Prod.snd (Prod.snd (lnF (Go.Ab.Ln.mk (Go.Ab.Ln.b ln) (Go.Ab.Ln.cr ln) (Go.Ab.Ln.code ln)) (UInt8.ofNat (Int.toNat k))))));let y23:=I.hid (α:=(Prop)) (And (LE.le (0:Int) k) (And (LE.le k (255:Int)) (LE.le (List.length (Go.Ab.Ln.b ln)) 1000000)));let y24:=I.hid (α:=Go.Ab.Rq) (zX y1 y3);.br (I.ieq p 2) (.need (I.inr Go.IntKind.u8 k) (.need (I.hid (α:=(Prop)) (zA (Go.Ab.Rq.mk (Go.Ab.Ln.mk (Go.Ab.Ln.b ln) (Go.Ab.Ln.cr ln) (Go.Ab.Ln.code ln)) p (Hd.mk m tg hm hf hl) le (Option.some (Go.Ab.Ch.mk (Go.Ab.Ln.mk (Go.Ab.Ln.b (Go.Ab.Ch.ln ch)) (Go.Ab.Ln.cr (Go.Ab.Ch.ln ch)) (Go.Ab.Ln.code (Go.Ab.Ch.ln ch))) (Go.Ab.Ch.pos ch) (Go.Ab.Ch.left ch) (Go.Ab.Ch.all ch) (Go.Ab.Ch.tails ch) (Go.Ab.Ch.code ch))) Bool.false out))) (.need (I.inr Go.IntKind.i64 (I.sub le 1)) (.br (I.ieq (I.sub le 1) 0) (.need (I.hid (α:=(Prop)) (zA (Go.Ab.Rq.mk (Go.Ab.Ln.mk (Go.Ab.Ln.b ln) (Go.Ab.Ln.cr ln) (Go.Ab.Ln.code ln)) p (Hd.mk m tg hm hf hl) (I.sub le 1) (Option.some (Go.Ab.Ch.mk (Go.Ab.Ln.mk (Go.Ab.Ln.b (Go.Ab.Ch.ln ch)) (Go.Ab.Ln.cr (Go.Ab.Ch.ln ch)) (Go.Ab.Ln.code (Go.Ab.Ch.ln ch))) (Go.Ab.Ch.pos ch) (Go.Ab.Ch.left ch) (Go.Ab.Ch.all ch) (Go.Ab.Ch.tails ch) (Go.Ab.Ch.code ch))) Bool.false y16))) (.fin (.ret (.tup [])) [(.abs (.rq (I.hid (α:=Go.Ab.Rq) (yP (Go.Ab.Rq.mk (Go.Ab.Ln.mk (Go.Ab.Ln.b ln) (Go.Ab.Ln.cr ln) (Go.Ab.Ln.code ln)) p (Hd.mk m tg hm hf hl) (I.sub le 1) (Option.some (Go.Ab.Ch.mk (Go.Ab.Ln.mk (Go.Ab.Ln.b (Go.Ab.Ch.ln ch)) (Go.Ab.Ln.cr (Go.Ab.Ch.ln ch)) (Go.Ab.Ln.code (Go.Ab.Ch.ln ch))) (Go.Ab.Ch.pos ch) (Go.Ab.Ch.left ch) (Go.Ab.Ch.all ch) (Go.Ab.Ch.tails ch) (Go.Ab.Ch.code ch))) Bool.false y16)))))])) (.fin (.ret (.tup [])) [(.abs (.rq (Go.Ab.Rq.mk (Go.Ab.Ln.mk (Go.Ab.Ln.b ln) (Go.Ab.Ln.cr ln) (Go.Ab.Ln.code ln)) p (Hd.mk m tg hm hf hl) (I.sub le 1) (Option.some (Go.Ab.Ch.mk (Go.Ab.Ln.mk (Go.Ab.Ln.b (Go.Ab.Ch.ln ch)) (Go.Ab.Ln.cr (Go.Ab.Ch.ln ch)) (Go.Ab.Ln.code (Go.Ab.Ch.ln ch))) (Go.Ab.Ch.pos ch) (Go.Ab.Ch.left ch) (Go.Ab.Ch.all ch) (Go.Ab.Ch.tails ch) (Go.Ab.Ch.code ch))) Bool.false y16)))]))))) (.br (I.ieq p 3) (.need (I.hid (α:=(Prop)) (And (And (LE.le (0:Int) k) (LE.le k (255:Int))) (And (LE.le (List.length (Go.Ab.Ln.b (Go.Ab.Ch.ln ch))) 1000000) (And (And (LE.le (Neg.neg (1000000:Int)) (Go.Ab.Ch.left ch)) (LE.le (Go.Ab.Ch.left ch) (100000000:Int))) (And (And (LE.le (0:Int) (Go.Ab.Ch.all ch)) (LE.le (Go.Ab.Ch.all ch) (1000000:Int))) (And (LE.le (0:Int) (Go.Ab.Ch.tails ch)) (LE.le (Go.Ab.Ch.tails ch) (1000000:Int)))))))) (.br (I.bnot (I.ieq y21 0)) (.need y0 (.fin (.ret (.tup [])) [(.abs (.rq (I.hid (α:=Go.Ab.Rq) (zX (Go.Ab.Rq.mk (Go.Ab.Ln.mk (Go.Ab.Ln.b ln) (Go.Ab.Ln.cr ln) (Go.Ab.Ln.code ln)) p (Hd.mk m tg hm hf hl) le (Option.some (Go.Ab.Ch.mk (Go.Ab.Ln.mk y8 y7 y6) y12 y10 y13 y9 y11)) Bool.false out) y21))))])) (.br (I.ilt 0 (I.len (α:=UInt8) (I.hid (α:=Str) (Prod.fst (Prod.snd (chF (Go.Ab.Ch.mk (Go.Ab.Ln.mk (Go.Ab.Ln.b (Go.Ab.Ch.ln ch)) (Go.Ab.Ln.cr (Go.Ab.Ch.ln ch)) (Go.Ab.Ln.code (Go.Ab.Ch.ln ch))) (Go.Ab.Ch.pos ch) (Go.Ab.Ch.left ch) (Go.Ab.Ch.all ch) (Go.Ab.Ch.tails ch) (Go.Ab.Ch.code ch)) (UInt8.ofNat (Int.toNat k)))))))) (.need y0 (.br y20 (.need (I.hid (α:=(Prop)) (zA (Go.Ab.Rq.mk (Go.Ab.Ln.mk (Go.Ab.Ln.b ln) (Go.Ab.Ln.cr ln) (Go.Ab.Ln.code ln)) p (Hd.mk m tg hm hf hl) le (Option.some (Go.Ab.Ch.mk (Go.Ab.Ln.mk y8 y7 y6) y12 y10 y13 y9 y11)) Bool.false y14))) (.fin (.ret (.tup [])) [(.abs (.rq (I.hid (α:=Go.Ab.Rq) (yP (Go.Ab.Rq.mk (Go.Ab.Ln.mk (Go.Ab.Ln.b ln) (Go.Ab.Ln.cr ln) (Go.Ab.Ln.code ln)) p (Hd.mk m tg hm hf hl) le (Option.some (Go.Ab.Ch.mk (Go.Ab.Ln.mk y8 y7 y6) y12 y10 y13 y9 y11)) Bool.false y14)))))])) (.fin (.ret (.tup [])) [(.abs (.rq (Go.Ab.Rq.mk (Go.Ab.Ln.mk (Go.Ab.Ln.b ln) (Go.Ab.Ln.cr ln) (Go.Ab.Ln.code ln)) p (Hd.mk m tg hm hf hl) le (Option.some (Go.Ab.Ch.mk (Go.Ab.Ln.mk y8 y7 y6) y12 y10 y13 y9 y11)) Bool.false y14)))]))) (.br y20 (.need y0 (.fin (.ret (.tup [])) [(.abs (.rq (I.hid (α:=Go.Ab.Rq) (yP (Go.Ab.Rq.mk (Go.Ab.Ln.mk (Go.Ab.Ln.b ln) (Go.Ab.Ln.cr ln) (Go.Ab.Ln.code ln)) p (Hd.mk m tg hm hf hl) le (Option.some (Go.Ab.Ch.mk (Go.Ab.Ln.mk y8 y7 y6) y12 y10 y13 y9 y11)) Bool.false out)))))])) (.fin (.ret (.tup [])) [(.abs (.rq (Go.Ab.Rq.mk (Go.Ab.Ln.mk (Go.Ab.Ln.b ln) (Go.Ab.Ln.cr ln) (Go.Ab.Ln.code ln)) p (Hd.mk m tg hm hf hl) le (Option.some (Go.Ab.Ch.mk (Go.Ab.Ln.mk y8 y7 y6) y12 y10 y13 y9 y11)) Bool.false out)))]))))) (.br (I.ieq p 0) (.need y23 (.br y15 (.br y22 (.need y5 (.br (I.bnot (I.ieq y3 0)) (.need (I.hid (α:=(Prop)) (zA y1)) (.fin (.ret (.tup [])) [(.abs (.rq y24))])) (.fin (.ret (.tup [])) [(.abs (.rq y1))]))) (.br (I.bnot y15) (.need y4 (.fin (.ret (.tup [])) [(.abs (.rq y2))])) (.fin (.ret (.tup [])) [(.abs (.rq (Go.Ab.Rq.mk (Go.Ab.Ln.mk y19 y18 y17) p (Hd.mk m tg hm hf hl) le (Option.some (Go.Ab.Ch.mk (Go.Ab.Ln.mk (Go.Ab.Ln.b (Go.Ab.Ch.ln ch)) (Go.Ab.Ln.cr (Go.Ab.Ch.ln ch)) (Go.Ab.Ln.code (Go.Ab.Ch.ln ch))) (Go.Ab.Ch.pos ch) (Go.Ab.Ch.left ch) (Go.Ab.Ch.all ch) (Go.Ab.Ch.tails ch) (Go.Ab.Ch.code ch))) Bool.false out)))]))) (.br (I.bnot y15) (.need y4 (.fin (.ret (.tup [])) [(.abs (.rq y2))])) (.fin (.ret (.tup [])) [(.abs (.rq (Go.Ab.Rq.mk (Go.Ab.Ln.mk y19 y18 y17) p (Hd.mk m tg hm hf hl) le (Option.some (Go.Ab.Ch.mk (Go.Ab.Ln.mk (Go.Ab.Ln.b (Go.Ab.Ch.ln ch)) (Go.Ab.Ln.cr (Go.Ab.Ch.ln ch)) (Go.Ab.Ln.code (Go.Ab.Ch.ln ch))) (Go.Ab.Ch.pos ch) (Go.Ab.Ch.left ch) (Go.Ab.Ch.all ch) (Go.Ab.Ch.tails ch) (Go.Ab.Ch.code ch))) Bool.false out)))])))) (.br (I.ieq p 1) (.need y23 (.br y15 (.br y22 (.need y5 (.br (I.bnot (I.ieq y3 0)) (.need (I.hid (α:=(Prop)) (zA y1)) (.fin (.ret (.tup [])) [(.abs (.rq y24))])) (.fin (.ret (.tup [])) [(.abs (.rq y1))]))) (.br (I.bnot y15) (.need y4 (.fin (.ret (.tup [])) [(.abs (.rq y2))])) (.fin (.ret (.tup [])) [(.abs (.rq (Go.Ab.Rq.mk (Go.Ab.Ln.mk y19 y18 y17) p (Hd.mk m tg hm hf hl) le (Option.some (Go.Ab.Ch.mk (Go.Ab.Ln.mk (Go.Ab.Ln.b (Go.Ab.Ch.ln ch)) (Go.Ab.Ln.cr (Go.Ab.Ch.ln ch)) (Go.Ab.Ln.code (Go.Ab.Ch.ln ch))) (Go.Ab.Ch.pos ch) (Go.Ab.Ch.left ch) (Go.Ab.Ch.all ch) (Go.Ab.Ch.tails ch) (Go.Ab.Ch.code ch))) Bool.false out)))]))) (.br (I.bnot y15) (.need y4 (.fin (.ret (.tup [])) [(.abs (.rq y2))])) (.fin (.ret (.tup [])) [(.abs (.rq (Go.Ab.Rq.mk (Go.Ab.Ln.mk y19 y18 y17) p (Hd.mk m tg hm hf hl) le (Option.some (Go.Ab.Ch.mk (Go.Ab.Ln.mk (Go.Ab.Ln.b (Go.Ab.Ch.ln ch)) (Go.Ab.Ln.cr (Go.Ab.Ch.ln ch)) (Go.Ab.Ln.code (Go.Ab.Ch.ln ch))) (Go.Ab.Ch.pos ch) (Go.Ab.Ch.left ch) (Go.Ab.Ch.all ch) (Go.Ab.Ch.tails ch) (Go.Ab.Ch.code ch))) Bool.false out)))])))) (.fin (.ret (.tup [])) [(.abs (.rq (Go.Ab.Rq.mk (Go.Ab.Ln.mk (Go.Ab.Ln.b ln) (Go.Ab.Ln.cr ln) (Go.Ab.Ln.code ln)) p (Hd.mk m tg hm hf hl) le (Option.some (Go.Ab.Ch.mk (Go.Ab.Ln.mk (Go.Ab.Ln.b (Go.Ab.Ch.ln ch)) (Go.Ab.Ln.cr (Go.Ab.Ch.ln ch)) (Go.Ab.Ln.code (Go.Ab.Ch.ln ch))) (Go.Ab.Ch.pos ch) (Go.Ab.Ch.left ch) (Go.Ab.Ch.all ch) (Go.Ab.Ch.tails ch) (Go.Ab.Ch.code ch))) Bool.false out)))]))))) (by kernel_rfl) ?_
  simp only [zC]
  subst hI
  unfold rqF at hr
  simp only at hr
  simp only [nrmA,nrmB,nrlB,reduceCtorEq,HO.abs.injEq,Gh.rq.injEq,Rq.mk.injEq]
  generalize UInt8.ofNat k.toNat=c at *
  have hni:=zcS (g2 ch rfl) hi
  have hz:chF ⟨⟨ch.ln.b,ch.ln.cr,ch.ln.code⟩,ch.pos,ch.left,ch.all,ch.tails,ch.code⟩ c=chF ch c:=rfl
  have hck:ckOf ⟨ln,p,⟨m,tg,hm,hf,hl⟩,le,some ch,false,out⟩=ch:=rfl
  simp only [hz]
  rw [hck] at hr
  clear hz hck
  have hz2:lnF ⟨ln.b,ln.cr,ln.code⟩ c=lnF ln c:=rfl
  simp only [hz2]
  clear hz2 g2
  by_cases q1:p=2
  · rw [if_pos q1] at hr
    have h9:=g9 q1
    by_cases q2:le - 1=0
    · rw [if_pos q2] at hr
      subst hr
      have q3:le=1:=by omega
      subst q3
      (repeat' (first|refine And.intro ?_ ?_|intro _))<;>first|omega|exact True.intro|exact False.elim ‹False›|skip
      all_goals first|omega|rfl|(unfold zA;simp;omega)|(unfold zA;simp only;omega)|trace_state
    · rw [if_neg q2] at hr
      subst hr
      (repeat' (first|refine And.intro ?_ ?_|intro _))<;>first|omega|exact True.intro|exact False.elim ‹False›|skip
      all_goals first|omega|rfl|(unfold zA;simp;omega)|(unfold zA;simp only;omega)|trace_state
  rw [if_neg q1] at hr
  by_cases q4:p=3
  · rw [if_pos q4] at hr
    generalize chF ch c=z at *
    obtain⟨⟨⟨zb,zc,zo⟩,z1,z2,z3,z4,z5⟩,d,ov,e⟩:=z
    simp only at hr ⊢
    have hd0:d.length=0↔d=[]:=List.length_eq_zero_iff
    by_cases q5:e=0
    · rw [if_neg (fun h=>h q5)] at hr
      cases ov with
      | true=>
        rw [if_pos rfl] at hr
        by_cases q6:d=[]
        · rw [if_neg (fun h=>h q6)] at hr
          have q7:=hd0.2 q6
          subst hr
          (repeat' (first|refine And.intro ?_ ?_|intro _))<;>first|omega|exact True.intro|exact False.elim ‹False›|skip
          all_goals first|omega|rfl|(unfold zA;simp;omega)|(unfold zA;simp only;omega)|contradiction|exact⟨⟨hk0,hk1⟩,hni⟩|trace_state
        · rw [if_pos q6] at hr
          have q7: ¬ d.length=0:=fun h=>q6 (hd0.1 h)
          subst hr
          (repeat' (first|refine And.intro ?_ ?_|intro _))<;>first|omega|exact True.intro|exact False.elim ‹False›|skip
          all_goals first|omega|rfl|(unfold zA;simp;omega)|(unfold zA;simp only;omega)|contradiction|exact⟨⟨hk0,hk1⟩,hni⟩|trace_state
      | false=>
        rw [if_neg Bool.false_ne_true] at hr
        by_cases q6:d=[]
        · rw [if_neg (fun h=>h q6)] at hr
          have q7:=hd0.2 q6
          subst hr
          (repeat' (first|refine And.intro ?_ ?_|intro _))<;>first|omega|exact True.intro|exact False.elim ‹False›|skip
          all_goals first|omega|rfl|(unfold zA;simp;omega)|(unfold zA;simp only;omega)|contradiction|exact⟨⟨hk0,hk1⟩,hni⟩|trace_state
        · rw [if_pos q6] at hr
          have q7: ¬ d.length=0:=fun h=>q6 (hd0.1 h)
          subst hr
          (repeat' (first|refine And.intro ?_ ?_|intro _))<;>first|omega|exact True.intro|exact False.elim ‹False›|skip
          all_goals first|omega|rfl|(unfold zA;simp;omega)|(unfold zA;simp only;omega)|contradiction|exact⟨⟨hk0,hk1⟩,hni⟩|trace_state
    · rw [if_pos q5] at hr
      subst hr
      (repeat' (first|refine And.intro ?_ ?_|intro _))<;>first|omega|exact True.intro|exact False.elim ‹False›|skip
      all_goals first|omega|rfl|(unfold zA;simp;omega)|(unfold zA;simp only;omega)|contradiction|exact⟨⟨hk0,hk1⟩,hni⟩|trace_state
  rw [if_neg q4] at hr
  by_cases q8:p=0∨p=1
  · exact absurd (g4 q8) (by simp)
  rw [if_neg q8] at hr
  subst hr
  (repeat' (first|refine And.intro ?_ ?_|intro _))<;>first|omega|exact True.intro|exact False.elim ‹False›|skip
  all_goals first|omega|rfl|contradiction|trace_state
theorem zim (q:Rq) (k:Int) (hneed:rqN q∧0≤k∧k≤255):Spc Tryz.prog 22 [.v (.one (.ptr 0 0)),.v (.one (.p (.int .u8 k)))] [.abs (.rq q)] (.ret (.tup [])) [.abs (.rq ((rqF q (UInt8.ofNat k.toNat))))]:=by
  obtain⟨ln,p,⟨m,tg,hm,hf,hl⟩,le,ck,own,out⟩:=q
  cases ck with
  | none=>cases own with
    |true=>exact zeR ln p m tg hm hf hl le out k hneed
    |false=>exact zeS ln p m tg hm hf hl le out k hneed
  | some ch=>cases own with
    |true=>exact zeP ln p m tg hm hf hl le ch out k hneed
    |false=>exact zeQ ln p m tg hm hf hl le ch out k hneed
def Zz (I:Alg) (args:List D) (hp:List HO):Option CT:=match args,hp with
  |[.v (.one (.ptr 0 0)),.v (.one (.p (.int .u8 k)))],[.abs (.rq q)]=>(fun(q:Rq) (k:Int)=>(some (.one ⟨I.hid (rqN q∧0≤k∧k≤255),(.ret (.tup [])),[.abs (.rq (I.hid ((rqF q (UInt8.ofNat k.toNat)))))]⟩):Option CT)) q k
  |_,_=>none
theorem Qc:zI Tryz.prog 22 (Zz alg):=by
  intro args hp r h
  unfold Zz at h
  split at h
  · cases h;exact fun hn=>zim _ _ hn
  · cases h
def wJ:Know Tryz.prog:=⟨22,Zz,Qc⟩
def wI:Know Tryz.prog:=⟨22,fun I=>zK I (Zz I),zf Qc⟩
end Go.Proofs.YtmibhbdfigpkmaaGreatDoor
namespace Go.Proofs.YtmibhbdfigpkmaaGreatDoor
open Go Go.Sep Go.Ab
set_option maxRecDepth 100000
def zO (l:List Evt):Nat:=(l.map fun e=>e.bytes.length).sum
theorem yM (a b:List Evt):zO (a++b)=zO a+zO b:=by simp [zO]
theorem xu (e:Evt):zO [e]=e.bytes.length:=by simp [zO]
theorem zfw (o:List Evt) (e:Evt):zO (xU o e)≤zO o+e.bytes.length:=by
  rcases List.eq_nil_or_concat o with rfl|⟨z,x,rfl⟩
  · rw [uz,xu];omega
  · rw [List.concat_eq_append,yC]
    split
    · rw [yM,yM,xu,xu];simp only [evB,List.length_append];omega
    · rw [yM _ [e],xu e];exact Nat.le_refl _
theorem Um (l:List Evt) (e:Evt):zD (l++[e])=xU (zD l) e:=by simp [zD,List.foldl_append]
theorem Va (l:List Evt):zO (zD l)≤zO l:=by
  suffices ∀ l o:List Evt,zO (l.foldl xU o)≤zO o+zO l by have:=this l [];simpa [zD,zO] using this
  intro l
  induction l with
  |nil=>intro o;simp [zO]
  | cons e r ih=>
    intro o
    have h1:=ih (xU o e)
    have h2:=zfw o e
    have h3:zO (e::r)=e.bytes.length+zO r:=by simp [zO]
    rw [List.foldl_cons];omega
theorem zfx (o:List Evt) (e:Evt):(xU o e).length≤o.length+1:=by
  rcases List.eq_nil_or_concat o with rfl|⟨z,x,rfl⟩
  · simp [uz]
  · rw [List.concat_eq_append,yC]
    split<;>simp
theorem UB (l:List Evt) (i:Nat):zO (l.take i)≤zO l:=by
  have:=yM (l.take i) (l.drop i)
  rw [List.take_append_drop] at this
  omega
theorem ZY {l:List Evt} {e:Evt} (h:e ∈ l):e.bytes.length≤zO l:=by
  obtain⟨a,b,rfl⟩:=List.append_of_mem h
  have:=yM a (e::b)
  have h3:zO (e::b)=e.bytes.length+zO b:=by simp [zO]
  omega
theorem ZR (l:List Evt):(zD l).length≤l.length:=by
  suffices ∀ l o:List Evt,(l.foldl xU o).length≤o.length+l.length by have:=this l [];simpa [zD] using this
  intro l
  induction l with
  |nil=>intro o;simp
  | cons e r ih=>
    intro o
    have h1:=ih (xU o e)
    have h2:=zfx o e
    rw [List.foldl_cons,List.length_cons];omega
theorem zif (l:List Evt) (hneed:zO l≤1000000∧l.length≤10000000):Spc Tryz.prog 17 [.v (.one (.row 0))] [.row .evt 32 l] (.ret (.v (.one (.row 1)))) [.row .evt 32 l,.row .evt 32 ((zD l))]:=by
  obtain⟨hn1,hn2⟩:=hneed
  refine spcG zu mixed Tryz.func17 (by kernel_rfl) { nr:=[3],keep:=some [0,2,3,5,6,7,8,9,10]} [] (by kernel_rfl) ?_
  intro I X hI hX
  refine zh (.code 0 [1,1,0,1,0] ⟨[(10,(.v (.one (.p (.int .i64 0))))),(9,(.v (.one (.p (.int .i64 (I.len (α:=Go.Ab.Evt) l)))))),(8,(.v (.one (.row 0)))),(3,(.v (.one (.row 1)))),(2,(.v (.one .nilS))),(0,(.v (.one (.row 0))))],[(.row .evt 32 l),(.row .evt 32 ([]:List Go.Ab.Evt))],52,none⟩) (by kernel_rfl) ?_
  simp only [zC]
  refine yw hI zu mixed [] hX [0,3,8,9,10] (fun(g:Nat × List Evt)=>match g with|(i,o)=>i≤l.length∧o=zD (l.take i)) (fun(g:Nat × List Evt)=>match g with|(i,o)=>⟨[(0,.v (.one (.row 0))),(3,.v (.one (.row 1))),(8,.v (.one (.row 0))),(9,.v (.one (.p (.int .i64 ((I.len (α:=Evt) l)))))),(10,.v (.one (.p (.int .i64 i))))],[.row .evt 32 l,.row .evt 32 o],52,none⟩) (fun(g:Nat × List Evt)=>match g with|(i,o)=>l.length - i) (0,[]) (by kernel_rfl) (by kernel_rfl) ?_ ?_
  · exact⟨Nat.zero_le _,rfl⟩
  rintro⟨i,o⟩ ⟨h1,h2⟩ A hA
  simp only at hA h1 h2
  refine zh (let y0:=I.get (α:=Go.Ab.Evt) l (Go.Ab.Evt.mk (0:Int) (Hd.mk ([]:Str) ([]:Str) (0:Int) ([]:List Fld) (0:Int)) ([]:Str) (Go.Ab.Prt.mk ([]:Str) ([]:Str) ([]:Str) ([]:Str)) (0:Int)) (Nat.cast i);let y1:=I.few (I.add (I.len (α:=Go.Ab.Evt) o) (I.len (α:=Go.Ab.Evt) ([(Go.Ab.Evt.mk (Go.Ab.Evt.kind y0) (Hd.mk (Hd.method (Go.Ab.Evt.head y0)) (Hd.target (Go.Ab.Evt.head y0)) (Hd.minor (Go.Ab.Evt.head y0)) (Hd.fields (Go.Ab.Evt.head y0)) (Hd.length (Go.Ab.Evt.head y0))) (Go.Ab.Evt.bytes y0) (Go.Ab.Prt.mk (Go.Ab.Prt.name (Go.Ab.Evt.part y0)) (Go.Ab.Prt.file (Go.Ab.Evt.part y0)) (Go.Ab.Prt.type (Go.Ab.Evt.part y0)) (Go.Ab.Prt.bytes (Go.Ab.Evt.part y0))) (Go.Ab.Evt.code y0))]:List Go.Ab.Evt))) 100000000;let y2:HO:=.row .evt 32 (I.app (α:=Go.Ab.Evt) o ([(Go.Ab.Evt.mk (Go.Ab.Evt.kind y0) (Hd.mk (Hd.method (Go.Ab.Evt.head y0)) (Hd.target (Go.Ab.Evt.head y0)) (Hd.minor (Go.Ab.Evt.head y0)) (Hd.fields (Go.Ab.Evt.head y0)) (Hd.length (Go.Ab.Evt.head y0))) (Go.Ab.Evt.bytes y0) (Go.Ab.Prt.mk (Go.Ab.Prt.name (Go.Ab.Evt.part y0)) (Go.Ab.Prt.file (Go.Ab.Evt.part y0)) (Go.Ab.Prt.type (Go.Ab.Evt.part y0)) (Go.Ab.Prt.bytes (Go.Ab.Evt.part y0))) (Go.Ab.Evt.code y0))]:List Go.Ab.Evt));let y6:=I.sub (I.len (α:=Go.Ab.Evt) o) 1;let y3:=I.get (α:=Go.Ab.Evt) o (Go.Ab.Evt.mk (0:Int) (Hd.mk ([]:Str) ([]:Str) (0:Int) ([]:List Fld) (0:Int)) ([]:Str) (Go.Ab.Prt.mk ([]:Str) ([]:Str) ([]:Str) ([]:Str)) (0:Int)) y6;let y4:=I.inb y6 (I.len (α:=Go.Ab.Evt) o);let y5:=I.inr Go.IntKind.i64 (I.add (Nat.cast i) 1);let y7:=I.inb (Nat.cast i) (I.len (α:=Go.Ab.Evt) l);let y8:=I.len (α:=UInt8) (Go.Ab.Evt.bytes y3);.br (I.ilt (Nat.cast i) (I.len (α:=Go.Ab.Evt) l)) (.need y7 (.need y7 (.need (I.inr Go.IntKind.i64 y6) (.br (I.ieq (Go.Ab.Evt.kind y0) 2) (.br (I.ile 0 y6) (.need y4 (.need y4 (.br (I.ieq (Go.Ab.Evt.kind y3) 2) (.need y4 (.need y4 (.need (I.few y8 140737488355328) (.need (I.few (I.add y8 (I.len (α:=UInt8) (Go.Ab.Evt.bytes y0))) 140737488355328) (.need y4 (.need y4 (.need y5 (.need (A ⟨[(0,(.v (.one (.row 0)))),(3,(.v (.one (.row 1)))),(8,(.v (.one (.row 0)))),(9,(.v (.one (.p (.int .i64 (I.len (α:=Go.Ab.Evt) l)))))),(10,(.v (.one (.p (.int .i64 (I.add (Nat.cast i) 1))))))],[(.row .evt 32 l),(.row .evt 32 (I.set (α:=Go.Ab.Evt) o y6 (Go.Ab.Evt.mk (2:Int) (Hd.mk ([]:Str) ([]:Str) (0:Int) ([]:List Fld) (0:Int)) (I.app (α:=UInt8) (Go.Ab.Evt.bytes y3) (Go.Ab.Evt.bytes y0)) (Go.Ab.Prt.mk ([]:Str) ([]:Str) ([]:Str) ([]:Str)) (0:Int))))],52,none⟩) .qed)))))))) (.need y1 (.need y5 (.need (A ⟨[(0,(.v (.one (.row 0)))),(3,(.v (.one (.row 1)))),(8,(.v (.one (.row 0)))),(9,(.v (.one (.p (.int .i64 (I.len (α:=Go.Ab.Evt) l)))))),(10,(.v (.one (.p (.int .i64 (I.add (Nat.cast i) 1))))))],[(.row .evt 32 l),y2],52,none⟩) .qed)))))) (.need y1 (.need y5 (.need (A ⟨[(0,(.v (.one (.row 0)))),(3,(.v (.one (.row 1)))),(8,(.v (.one (.row 0)))),(9,(.v (.one (.p (.int .i64 (I.len (α:=Go.Ab.Evt) l)))))),(10,(.v (.one (.p (.int .i64 (I.add (Nat.cast i) 1))))))],[(.row .evt 32 l),y2],52,none⟩) .qed)))) (.need y1 (.need y5 (.need (A ⟨[(0,(.v (.one (.row 0)))),(3,(.v (.one (.row 1)))),(8,(.v (.one (.row 0)))),(9,(.v (.one (.p (.int .i64 (I.len (α:=Go.Ab.Evt) l)))))),(10,(.v (.one (.p (.int .i64 (I.add (Nat.cast i) 1))))))],[(.row .evt 32 l),y2],52,none⟩) .qed))))))) (.fin (.ret (.v (.one (.row 1)))) [(.row .evt 32 l),(.row .evt 32 o)])) (by kernel_rfl) ?_
  simp only [zC]
  subst hI
  simp only [nrmA,nrmB,nrlB,reduceCtorEq]
  have hl1:=ZR (l.take i)
  have hl2:(l.take i).length≤i:=by rw [List.length_take];omega
  have hl3:=Va (l.take i)
  have hl4: ∀ x ∈ zD (l.take i),x.bytes.length≤1000000:=fun x h=>by
    have a:=ZY h
    have b:=UB l i
    omega
  have hw: ¬ i<l.length→o=zD l:=fun h=>by rw [h2,List.take_of_length_le (by omega)]
  have hy:i<l.length→zD (l.take (i+1))=xU o (l.getD i ⟨0,⟨[],[],0,[],0⟩,[],⟨[],[],[],[]⟩,0⟩):=fun h=>by rw [List.take_succ_eq_append_getElem h,Um,h2];simp [h]
  have hl5:i<l.length→(l.getD i ⟨0,⟨[],[],0,[],0⟩,[],⟨[],[],[],[]⟩,0⟩).bytes.length≤1000000:=fun h=>by
    have:l.getD i ⟨0,⟨[],[],0,[],0⟩,[],⟨[],[],[],[]⟩,0⟩ ∈ l:=by simp [h]
    have:=ZY this
    omega
  rw [← h2] at hl1 hl4
  refine⟨fun c=> ?_,fun c=>hw (by omega)⟩
  have hlt:i<l.length:=by omega
  have hy:=hy hlt
  have hl5:=hl5 hlt
  generalize l.getD i ⟨0,⟨[],[],0,[],0⟩,[],⟨[],[],[],[]⟩,0⟩=e at *
  have hgo: ∀ r:List Evt,r=xU o e→(fun p:Nat × List Evt=>p.1≤l.length∧p.2=zD (l.take p.1)) (i+1,r):=fun r h=>⟨by simp only;omega,by simp only;rw [hy,h]⟩
  rcases List.eq_nil_or_concat o with he|⟨z,x,he⟩
  · subst he
    rw [uz] at hgo
    simp only [List.length_cons,List.length_nil]
    (repeat' (first|refine And.intro ?_ ?_|intro _))<;>first|omega|exact True.intro|exact False.elim ‹False›|skip
    all_goals first
      |omega
      |exact hA (i+1,_) (hgo _ rfl) (by simp only;omega)
  · rw [List.concat_eq_append] at he
    subst he
    have hx:=hl4 x (List.mem_append_right _ (List.mem_singleton.2 rfl))
    have hz:(((z++[x]).length:Int) - 1).toNat=z.length:=by rw [List.length_append,List.length_singleton];omega
    have hg: ∀ d,(z++[x]).getD z.length d=x:=fun d=>by simp
    have hs: ∀ d,(z++[x]).set z.length d=z++[d]:=fun d=>by simp
    rw [yC] at hgo
    rw [List.length_append,List.length_singleton] at hl1
    simp only [hz,hg,hs]
    simp only [List.length_append,List.length_cons,List.length_nil]
    clear hz hg hs
    (repeat' (first|refine And.intro ?_ ?_|intro _))<;>first|omega|exact True.intro|exact False.elim ‹False›|skip
    all_goals first
      |omega
      |(rw [if_pos ⟨‹e.kind=2›,‹x.kind=2›⟩] at hgo;exact hA (i+1,_) (hgo _ rfl) (by simp only;omega))
      |(rw [if_neg (fun h=>‹¬ e.kind=2› h.1)] at hgo;exact hA (i+1,_) (hgo _ rfl) (by simp only;omega))
      |(rw [if_neg (fun h=>‹¬ x.kind=2› h.2)] at hgo;exact hA (i+1,_) (hgo _ rfl) (by simp only;omega))
def Zp (I:Alg) (args:List D) (hp:List HO):Option CT:=match args,hp with
  |[.v (.one (.row 0))],[.row .evt 32 l]=>(fun(l:List Evt)=>(some (.one ⟨I.hid (zO l≤1000000∧l.length≤10000000),(.ret (.v (.one (.row 1)))),[.row .evt 32 l,.row .evt 32 (I.hid ((zD l)))]⟩):Option CT)) l
  |_,_=>none
theorem RU:zI Tryz.prog 17 (Zp alg):=by
  intro args hp r h
  unfold Zp at h
  split at h
  · cases h;exact fun hn=>zif _ hn
  · cases h
def yS:Know Tryz.prog:=⟨17,Zp,RU⟩
def yR:Know Tryz.prog:=⟨17,fun I=>zK I (Zp I),zf RU⟩
end Go.Proofs.YtmibhbdfigpkmaaGreatDoor
