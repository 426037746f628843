/- Texts of this proof, one behind the other: ReqF RplL RplA Idx ReqG ReqW RplP ReqY ReqH ReqR Base ReqN ReqX ReqO ReqPc ReqZ. -/
import Derived.Laws.Runes
import Derived.Lib.OthersKept
import Derived.Deep.QuietTactic
import Derived.BigQuiet
import Derived.Shelf.Strings.IndexAnyAll
import Derived.Test.YtmibhbdfigpkmaaGreatDoorMd
set_option linter.all false
namespace Go.Proofs.YtmibhbdfigpkmaaGreatDoor
open Go Go.Sep Go.Ab
set_option maxRecDepth 100000
theorem zdk (q:Rq):zO (zV q).1.out≤zO q.out:=by
  unfold zV yP
  repeat' split
  all_goals simp [zO,evH,evE]
theorem zdg (q:Rq) (s:Str):zO (zG q s).1.out≤zO q.out:=by
  have hd:=zdk q
  unfold zG
  repeat' split
  all_goals first|exact hd|exact Nat.le_refl _
theorem Ws (q:Rq) (c:UInt8):zO (rqF q c).out≤zO q.out+1:=by
  have hl:=zdg { q with ln:=(lnF q.ln c).1} (lnF q.ln c).2.1
  have hd:=(zcT (s:=ckOf q) (c:=c)).1
  unfold rqF
  split
  · split
    · simp only [yP,yM,xu,evB,evE,List.length_cons,List.length_nil];omega
    · simp only [yM,xu,evB,List.length_cons,List.length_nil];omega
  split
  · split
    · simp only [zX,yM,xu,evF,List.length_nil];omega
    split
    · simp only [yP,yM,xu,evE,List.length_nil]
      split
      · simp only [yM,xu,evB];omega
      · omega
    · show zO (if(chF (ckOf q) c).2.1≠[] then q.out++[evB (chF (ckOf q) c).2.1] else q.out)≤_
      split
      · simp only [yM,xu,evB];omega
      · omega
  split
  · split
    · simp only [zX,yM,xu,evF,List.length_nil];omega
    split
    · split
      · simp only [zX,yM,xu,evF,List.length_nil];simp only at hl;omega
      · simp only at hl;omega
    · exact Nat.le_succ _
  · exact Nat.le_succ _
def rqAt (q:Rq) (b:Str) (n i:Nat):Prop:=RqI (yE { q with out:=[]} (b.take i)) (n+i)∧zO (yE { q with out:=[]} (b.take i)).out≤i
theorem zbZ {q:Rq} {n:Nat} (h:RqI { q with out:=[]} n) (b:Str):rqAt q b n 0:=⟨h,by simp [yE,zO]⟩
theorem U3 (q:Rq) (b:Str) {i:Nat} (h:i<b.length):yE q (b.take (i+1))=rqF (yE q (b.take i)) (b.getD i 0):=by
  rw [show b.getD i 0=b[i] by simp [h],List.take_succ_eq_append_getElem h]
  unfold yE
  rw [List.foldl_append]
  rfl
def rqN0 (q:Rq) (b:Str):Prop:=∃ n,RqI { q with out:=[]} n∧n+b.length≤1000000
theorem zeB (ln:Ln) (p:Int) (m tg:Str) (hm:Int) (hf:List Fld) (hl le:Int) (out:List Evt) (b:Str) (hneed:rqN0 ⟨ln,p,⟨m,tg,hm,hf,hl⟩,le,none,true,out⟩ b):Spc Tryz.prog 9 [.v (.one (.ptr 0 0)),.v (.one (.p (.list .byte b)))] [.abs (.rq ⟨ln,p,⟨m,tg,hm,hf,hl⟩,le,none,true,out⟩)] (.ret (.v (.one (.row 1)))) [.abs (.rq ((zF ⟨ln,p,⟨m,tg,hm,hf,hl⟩,le,none,true,out⟩ b))),.row .evt 32 ((zD (zF ⟨ln,p,⟨m,tg,hm,hf,hl⟩,le,none,true,out⟩ b).out))]:=by
  obtain⟨n,hI0,hnb⟩:=hneed
  have hat:=zbZ hI0 b
  refine spcG zu mixed Tryz.func9 (by kernel_rfl) { cfgQ with fz:=[],keep:=some [0,1,4,6,10,11,12]} [wJ,wI,yS,yR] (by kernel_rfl) ?_
  intro I X hI hX
  refine zh (.code 0 [1,1,0,1,0] ⟨[(12,(.v (.one (.p (.int .i64 0))))),(11,(.v (.one (.p (.int .i64 (I.len (α:=UInt8) b)))))),(10,(.v (.one (.p (.list .byte b))))),(4,(.v (.one .nilS))),(0,(.v (.one (.ptr 0 0)))),(1,(.v (.one (.p (.list .byte b)))))],[(.obj 57 [(.ptr 1 0),(.p (.int .i64 p)),(.p (.str m)),(.p (.str tg)),(.p (.int .i64 hm)),(.row 2),(.p (.int .i64 hl)),(.p (.int .i64 le)),(.p (.val (.pointer .none))),.nilS]),(.pack [(.obj 82 [(.row 1),(.p (.bool (Go.Ab.Ln.cr ln))),(.p (.int .i64 (Go.Ab.Ln.code ln)))]),(.row .byte 5 (Go.Ab.Ln.b ln))]),(.row .fld 51 hf),(.row .evt 32 out)],25,none⟩) (by kernel_rfl) ?_
  simp only [zC]
  have hr:({ (⟨ln,p,⟨m,tg,hm,hf,hl⟩,le,none,true,out⟩:Rq) with out:=[]}:Rq)=(⟨ln,p,⟨m,tg,hm,hf,hl⟩,le,none,true,[]⟩:Rq):=rfl
  unfold rqAt at hat
  unfold zF
  rw [hr] at hat ⊢
  refine yw hI zu mixed [wJ,wI,yS,yR] hX [0,1,10,11,12] (fun(g:Nat × Rq)=>match g with|(i,r)=>i≤b.length∧r=yE (⟨ln,p,⟨m,tg,hm,hf,hl⟩,le,none,true,[]⟩:Rq) (b.take i)∧RqI r (n+i)∧zO r.out≤i) (fun(g:Nat × Rq)=>match g with|(i,r)=>⟨[(0,.v (.one (.ptr 0 0))),(1,.v (.one (.p (.list .byte b)))),(10,.v (.one (.p (.list .byte b)))),(11,.v (.one (.p (.int .i64 ((I.len (α:=UInt8) b)))))),(12,.v (.one (.p (.int .i64 i))))],[.abs (.rq r)],25,none⟩) (fun(g:Nat × Rq)=>match g with|(i,r)=>b.length - i) (0,(⟨ln,p,⟨m,tg,hm,hf,hl⟩,le,none,true,[]⟩:Rq)) (by kernel_rfl) (by kernel_rfl) ?_ ?_
  · exact⟨Nat.zero_le _,rfl,hat.1,hat.2⟩
  rintro⟨i,⟨ln2,p2,⟨m2,t2,hm2,hf2,hl2⟩,le2,ck2,own2,out2⟩⟩ ⟨h1,h2,h3,h4⟩ A hA
  simp only at hA h1 h2 h3 h4
  have hrn:i<b.length→rqN _:=fun h=>⟨n+i,by omega,h3⟩
  have hgo:i<b.length→_:=fun h=>hA (i+1,rqF ⟨ln2,p2,⟨m2,t2,hm2,hf2,hl2⟩,le2,ck2,own2,out2⟩ (b.getD i 0)) ⟨by simp only;omega,by simp only;rw [U3 _ _ h,← h2],by simp only;exact zdj h3 _,by simp only;have:=Ws ⟨ln2,p2,⟨m2,t2,hm2,hf2,hl2⟩,le2,ck2,own2,out2⟩ (b.getD i 0);simp only at this;omega⟩ (by simp only;omega)
  have hend: ¬ i<b.length→_:=fun h=>h2.trans (by rw [List.take_of_length_le (by omega)])
  rcases ck2 with _|ch2<;>rcases own2 with _|_
  · have h0:=h1
    refine zh (let y0:=I.b2i (I.get (α:=UInt8) b 0 (Nat.cast i));let y1:=I.inb (Nat.cast i) (I.len (α:=UInt8) b);.br (I.ilt (Nat.cast i) (I.len (α:=UInt8) b)) (.need y1 (.need y1 (.need (I.hid (α:=(Prop)) (And (rqN (Go.Ab.Rq.mk ln2 p2 (Hd.mk m2 t2 hm2 hf2 hl2) le2 (Option.none) Bool.false out2)) (And (LE.le (0:Int) y0) (LE.le y0 (255:Int))))) (.need (I.inr Go.IntKind.i64 (I.add (Nat.cast i) 1)) (.need (A ⟨[(0,(.v (.one (.ptr 0 0)))),(1,(.v (.one (.p (.list .byte b))))),(10,(.v (.one (.p (.list .byte b))))),(11,(.v (.one (.p (.int .i64 (I.len (α:=UInt8) b)))))),(12,(.v (.one (.p (.int .i64 (I.add (Nat.cast i) 1))))))],[(.abs (.rq (I.hid (α:=Go.Ab.Rq) (rqF (Go.Ab.Rq.mk ln2 p2 (Hd.mk m2 t2 hm2 hf2 hl2) le2 (Option.none) Bool.false out2) (UInt8.ofNat (Int.toNat y0))))))],25,none⟩) .qed))))) (.need (I.hid (α:=(Prop)) (And (LE.le (zO out2) 1000000) (LE.le (List.length out2) 10000000))) (.fin (.ret (.v (.one (.row 1)))) [(.abs (.rq (Go.Ab.Rq.mk (Go.Ab.Ln.mk (Go.Ab.Ln.b ln2) (Go.Ab.Ln.cr ln2) (Go.Ab.Ln.code ln2)) p2 (Hd.mk m2 t2 hm2 hf2 hl2) le2 (Option.none) Bool.false out2))),(.row .evt 32 (I.hid (α:=(List Go.Ab.Evt)) (zD out2)))]))) (by kernel_rfl) ?_
    simp only [zC]
    subst hI
    simp only [nrmA,nrmB,nrlB,reduceCtorEq,HO.abs.injEq,Gh.rq.injEq,Rq.mk.injEq]
    by_cases hi:i<b.length
    · have hg:=hgo hi
      have hn:=hrn hi
      (repeat' (first|refine And.intro ?_ ?_|intro _))<;>first|omega|exact True.intro|exact False.elim ‹False›|skip
      all_goals first|omega|exact hg|exact hn|contradiction|(have:=(b.getD i 0).toNat_lt;omega)|trace_state
    · have hg:=hend hi
      rw [← hg]
      have hon:=h3.on
      simp only at hon
      (repeat' (first|refine And.intro ?_ ?_|intro _))<;>first|omega|exact True.intro|exact False.elim ‹False›|skip
      all_goals first|omega|rfl|contradiction|exact⟨by omega,by omega⟩|trace_state
  · have h0:=h1
    refine zh (let y0:=I.b2i (I.get (α:=UInt8) b 0 (Nat.cast i));let y1:=I.inb (Nat.cast i) (I.len (α:=UInt8) b);.br (I.ilt (Nat.cast i) (I.len (α:=UInt8) b)) (.need y1 (.need y1 (.need (I.hid (α:=(Prop)) (And (rqN (Go.Ab.Rq.mk ln2 p2 (Hd.mk m2 t2 hm2 hf2 hl2) le2 (Option.none) Bool.true out2)) (And (LE.le (0:Int) y0) (LE.le y0 (255:Int))))) (.need (I.inr Go.IntKind.i64 (I.add (Nat.cast i) 1)) (.need (A ⟨[(0,(.v (.one (.ptr 0 0)))),(1,(.v (.one (.p (.list .byte b))))),(10,(.v (.one (.p (.list .byte b))))),(11,(.v (.one (.p (.int .i64 (I.len (α:=UInt8) b)))))),(12,(.v (.one (.p (.int .i64 (I.add (Nat.cast i) 1))))))],[(.abs (.rq (I.hid (α:=Go.Ab.Rq) (rqF (Go.Ab.Rq.mk ln2 p2 (Hd.mk m2 t2 hm2 hf2 hl2) le2 (Option.none) Bool.true out2) (UInt8.ofNat (Int.toNat y0))))))],25,none⟩) .qed))))) (.need (I.hid (α:=(Prop)) (And (LE.le (zO out2) 1000000) (LE.le (List.length out2) 10000000))) (.fin (.ret (.v (.one (.row 1)))) [(.abs (.rq (Go.Ab.Rq.mk (Go.Ab.Ln.mk (Go.Ab.Ln.b ln2) (Go.Ab.Ln.cr ln2) (Go.Ab.Ln.code ln2)) p2 (Hd.mk m2 t2 hm2 hf2 hl2) le2 (Option.none) Bool.true out2))),(.row .evt 32 (I.hid (α:=(List Go.Ab.Evt)) (zD out2)))]))) (by kernel_rfl) ?_
    simp only [zC]
    subst hI
    simp only [nrmA,nrmB,nrlB,reduceCtorEq,HO.abs.injEq,Gh.rq.injEq,Rq.mk.injEq]
    by_cases hi:i<b.length
    · have hg:=hgo hi
      have hn:=hrn hi
      (repeat' (first|refine And.intro ?_ ?_|intro _))<;>first|omega|exact True.intro|exact False.elim ‹False›|skip
      all_goals first|omega|exact hg|exact hn|contradiction|(have:=(b.getD i 0).toNat_lt;omega)|trace_state
    · have hg:=hend hi
      rw [← hg]
      have hon:=h3.on
      simp only at hon
      (repeat' (first|refine And.intro ?_ ?_|intro _))<;>first|omega|exact True.intro|exact False.elim ‹False›|skip
      all_goals first|omega|rfl|contradiction|exact⟨by omega,by omega⟩|trace_state
  · have h0:=h1
    refine zh (let y0:=I.b2i (I.get (α:=UInt8) b 0 (Nat.cast i));let y1:=I.inb (Nat.cast i) (I.len (α:=UInt8) b);.br (I.ilt (Nat.cast i) (I.len (α:=UInt8) b)) (.need y1 (.need y1 (.need (I.hid (α:=(Prop)) (And (rqN (Go.Ab.Rq.mk ln2 p2 (Hd.mk m2 t2 hm2 hf2 hl2) le2 (Option.some ch2) Bool.false out2)) (And (LE.le (0:Int) y0) (LE.le y0 (255:Int))))) (.need (I.inr Go.IntKind.i64 (I.add (Nat.cast i) 1)) (.need (A ⟨[(0,(.v (.one (.ptr 0 0)))),(1,(.v (.one (.p (.list .byte b))))),(10,(.v (.one (.p (.list .byte b))))),(11,(.v (.one (.p (.int .i64 (I.len (α:=UInt8) b)))))),(12,(.v (.one (.p (.int .i64 (I.add (Nat.cast i) 1))))))],[(.abs (.rq (I.hid (α:=Go.Ab.Rq) (rqF (Go.Ab.Rq.mk ln2 p2 (Hd.mk m2 t2 hm2 hf2 hl2) le2 (Option.some ch2) Bool.false out2) (UInt8.ofNat (Int.toNat y0))))))],25,none⟩) .qed))))) (.need (I.hid (α:=(Prop)) (And (LE.le (zO out2) 1000000) (LE.le (List.length out2) 10000000))) (.fin (.ret (.v (.one (.row 1)))) [(.abs (.rq (Go.Ab.Rq.mk (Go.Ab.Ln.mk (Go.Ab.Ln.b ln2) (Go.Ab.Ln.cr ln2) (Go.Ab.Ln.code ln2)) p2 (Hd.mk m2 t2 hm2 hf2 hl2) le2 (Option.some (Go.Ab.Ch.mk (Go.Ab.Ln.mk (Go.Ab.Ln.b (Go.Ab.Ch.ln ch2)) (Go.Ab.Ln.cr (Go.Ab.Ch.ln ch2)) (Go.Ab.Ln.code (Go.Ab.Ch.ln ch2))) (Go.Ab.Ch.pos ch2) (Go.Ab.Ch.left ch2) (Go.Ab.Ch.all ch2) (Go.Ab.Ch.tails ch2) (Go.Ab.Ch.code ch2))) Bool.false out2))),(.row .evt 32 (I.hid (α:=(List Go.Ab.Evt)) (zD out2)))]))) (by kernel_rfl) ?_
    simp only [zC]
    subst hI
    simp only [nrmA,nrmB,nrlB,reduceCtorEq,HO.abs.injEq,Gh.rq.injEq,Rq.mk.injEq]
    by_cases hi:i<b.length
    · have hg:=hgo hi
      have hn:=hrn hi
      (repeat' (first|refine And.intro ?_ ?_|intro _))<;>first|omega|exact True.intro|exact False.elim ‹False›|skip
      all_goals first|omega|exact hg|exact hn|contradiction|(have:=(b.getD i 0).toNat_lt;omega)|trace_state
    · have hg:=hend hi
      rw [← hg]
      have hon:=h3.on
      simp only at hon
      (repeat' (first|refine And.intro ?_ ?_|intro _))<;>first|omega|exact True.intro|exact False.elim ‹False›|skip
      all_goals first|omega|rfl|contradiction|exact⟨by omega,by omega⟩|trace_state
  · have h0:=h1
    refine zh (let y0:=I.b2i (I.get (α:=UInt8) b 0 (Nat.cast i));let y1:=I.inb (Nat.cast i) (I.len (α:=UInt8) b);.br (I.ilt (Nat.cast i) (I.len (α:=UInt8) b)) (.need y1 (.need y1 (.need (I.hid (α:=(Prop)) (And (rqN (Go.Ab.Rq.mk ln2 p2 (Hd.mk m2 t2 hm2 hf2 hl2) le2 (Option.some ch2) Bool.true out2)) (And (LE.le (0:Int) y0) (LE.le y0 (255:Int))))) (.need (I.inr Go.IntKind.i64 (I.add (Nat.cast i) 1)) (.need (A ⟨[(0,(.v (.one (.ptr 0 0)))),(1,(.v (.one (.p (.list .byte b))))),(10,(.v (.one (.p (.list .byte b))))),(11,(.v (.one (.p (.int .i64 (I.len (α:=UInt8) b)))))),(12,(.v (.one (.p (.int .i64 (I.add (Nat.cast i) 1))))))],[(.abs (.rq (I.hid (α:=Go.Ab.Rq) (rqF (Go.Ab.Rq.mk ln2 p2 (Hd.mk m2 t2 hm2 hf2 hl2) le2 (Option.some ch2) Bool.true out2) (UInt8.ofNat (Int.toNat y0))))))],25,none⟩) .qed))))) (.need (I.hid (α:=(Prop)) (And (LE.le (zO out2) 1000000) (LE.le (List.length out2) 10000000))) (.fin (.ret (.v (.one (.row 1)))) [(.abs (.rq (Go.Ab.Rq.mk (Go.Ab.Ln.mk (Go.Ab.Ln.b ln2) (Go.Ab.Ln.cr ln2) (Go.Ab.Ln.code ln2)) p2 (Hd.mk m2 t2 hm2 hf2 hl2) le2 (Option.some (Go.Ab.Ch.mk (Go.Ab.Ln.mk (Go.Ab.Ln.b (Go.Ab.Ch.ln ch2)) (Go.Ab.Ln.cr (Go.Ab.Ch.ln ch2)) (Go.Ab.Ln.code (Go.Ab.Ch.ln ch2))) (Go.Ab.Ch.pos ch2) (Go.Ab.Ch.left ch2) (Go.Ab.Ch.all ch2) (Go.Ab.Ch.tails ch2) (Go.Ab.Ch.code ch2))) Bool.true out2))),(.row .evt 32 (I.hid (α:=(List Go.Ab.Evt)) (zD out2)))]))) (by kernel_rfl) ?_
    simp only [zC]
    subst hI
    simp only [nrmA,nrmB,nrlB,reduceCtorEq,HO.abs.injEq,Gh.rq.injEq,Rq.mk.injEq]
    by_cases hi:i<b.length
    · have hg:=hgo hi
      have hn:=hrn hi
      (repeat' (first|refine And.intro ?_ ?_|intro _))<;>first|omega|exact True.intro|exact False.elim ‹False›|skip
      all_goals first|omega|exact hg|exact hn|contradiction|(have:=(b.getD i 0).toNat_lt;omega)|trace_state
    · have hg:=hend hi
      rw [← hg]
      have hon:=h3.on
      simp only at hon
      (repeat' (first|refine And.intro ?_ ?_|intro _))<;>first|omega|exact True.intro|exact False.elim ‹False›|skip
      all_goals first|omega|rfl|contradiction|exact⟨by omega,by omega⟩|trace_state
theorem zeC (ln:Ln) (p:Int) (m tg:Str) (hm:Int) (hf:List Fld) (hl le:Int) (out:List Evt) (b:Str) (hneed:rqN0 ⟨ln,p,⟨m,tg,hm,hf,hl⟩,le,none,false,out⟩ b):Spc Tryz.prog 9 [.v (.one (.ptr 0 0)),.v (.one (.p (.list .byte b)))] [.abs (.rq ⟨ln,p,⟨m,tg,hm,hf,hl⟩,le,none,false,out⟩)] (.ret (.v (.one (.row 1)))) [.abs (.rq ((zF ⟨ln,p,⟨m,tg,hm,hf,hl⟩,le,none,false,out⟩ b))),.row .evt 32 ((zD (zF ⟨ln,p,⟨m,tg,hm,hf,hl⟩,le,none,false,out⟩ b).out))]:=by
  obtain⟨n,hI0,hnb⟩:=hneed
  have hat:=zbZ hI0 b
  refine spcG zu mixed Tryz.func9 (by kernel_rfl) { cfgQ with fz:=[],keep:=some [0,1,4,6,10,11,12]} [wJ,wI,yS,yR] (by kernel_rfl) ?_
  intro I X hI hX
  refine zh (.code 0 [1,1,0,1,0] ⟨[(12,(.v (.one (.p (.int .i64 0))))),(11,(.v (.one (.p (.int .i64 (I.len (α:=UInt8) b)))))),(10,(.v (.one (.p (.list .byte b))))),(4,(.v (.one .nilS))),(0,(.v (.one (.ptr 0 0)))),(1,(.v (.one (.p (.list .byte b)))))],[(.obj 57 [(.ptr 1 0),(.p (.int .i64 p)),(.p (.str m)),(.p (.str tg)),(.p (.int .i64 hm)),(.p (.list .fld hf)),(.p (.int .i64 hl)),(.p (.int .i64 le)),(.p (.val (.pointer .none))),.nilS]),(.pack [(.obj 82 [(.row 1),(.p (.bool (Go.Ab.Ln.cr ln))),(.p (.int .i64 (Go.Ab.Ln.code ln)))]),(.row .byte 5 (Go.Ab.Ln.b ln))]),(.row .evt 32 out)],25,none⟩) (by kernel_rfl) ?_
  simp only [zC]
  have hr:({ (⟨ln,p,⟨m,tg,hm,hf,hl⟩,le,none,false,out⟩:Rq) with out:=[]}:Rq)=(⟨ln,p,⟨m,tg,hm,hf,hl⟩,le,none,false,[]⟩:Rq):=rfl
  unfold rqAt at hat
  unfold zF
  rw [hr] at hat ⊢
  refine yw hI zu mixed [wJ,wI,yS,yR] hX [0,1,10,11,12] (fun(g:Nat × Rq)=>match g with|(i,r)=>i≤b.length∧r=yE (⟨ln,p,⟨m,tg,hm,hf,hl⟩,le,none,false,[]⟩:Rq) (b.take i)∧RqI r (n+i)∧zO r.out≤i) (fun(g:Nat × Rq)=>match g with|(i,r)=>⟨[(0,.v (.one (.ptr 0 0))),(1,.v (.one (.p (.list .byte b)))),(10,.v (.one (.p (.list .byte b)))),(11,.v (.one (.p (.int .i64 ((I.len (α:=UInt8) b)))))),(12,.v (.one (.p (.int .i64 i))))],[.abs (.rq r)],25,none⟩) (fun(g:Nat × Rq)=>match g with|(i,r)=>b.length - i) (0,(⟨ln,p,⟨m,tg,hm,hf,hl⟩,le,none,false,[]⟩:Rq)) (by kernel_rfl) (by kernel_rfl) ?_ ?_
  · exact⟨Nat.zero_le _,rfl,hat.1,hat.2⟩
  rintro⟨i,⟨ln2,p2,⟨m2,t2,hm2,hf2,hl2⟩,le2,ck2,own2,out2⟩⟩ ⟨h1,h2,h3,h4⟩ A hA
  simp only at hA h1 h2 h3 h4
  have hrn:i<b.length→rqN _:=fun h=>⟨n+i,by omega,h3⟩
  have hgo:i<b.length→_:=fun h=>hA (i+1,rqF ⟨ln2,p2,⟨m2,t2,hm2,hf2,hl2⟩,le2,ck2,own2,out2⟩ (b.getD i 0)) ⟨by simp only;omega,by simp only;rw [U3 _ _ h,← h2],by simp only;exact zdj h3 _,by simp only;have:=Ws ⟨ln2,p2,⟨m2,t2,hm2,hf2,hl2⟩,le2,ck2,own2,out2⟩ (b.getD i 0);simp only at this;omega⟩ (by simp only;omega)
  have hend: ¬ i<b.length→_:=fun h=>h2.trans (by rw [List.take_of_length_le (by omega)])
  rcases ck2 with _|ch2<;>rcases own2 with _|_
  · have h0:=h1
    refine zh (let y0:=I.b2i (I.get (α:=UInt8) b 0 (Nat.cast i));let y1:=I.inb (Nat.cast i) (I.len (α:=UInt8) b);.br (I.ilt (Nat.cast i) (I.len (α:=UInt8) b)) (.need y1 (.need y1 (.need (I.hid (α:=(Prop)) (And (rqN (Go.Ab.Rq.mk ln2 p2 (Hd.mk m2 t2 hm2 hf2 hl2) le2 (Option.none) Bool.false out2)) (And (LE.le (0:Int) y0) (LE.le y0 (255:Int))))) (.need (I.inr Go.IntKind.i64 (I.add (Nat.cast i) 1)) (.need (A ⟨[(0,(.v (.one (.ptr 0 0)))),(1,(.v (.one (.p (.list .byte b))))),(10,(.v (.one (.p (.list .byte b))))),(11,(.v (.one (.p (.int .i64 (I.len (α:=UInt8) b)))))),(12,(.v (.one (.p (.int .i64 (I.add (Nat.cast i) 1))))))],[(.abs (.rq (I.hid (α:=Go.Ab.Rq) (rqF (Go.Ab.Rq.mk ln2 p2 (Hd.mk m2 t2 hm2 hf2 hl2) le2 (Option.none) Bool.false out2) (UInt8.ofNat (Int.toNat y0))))))],25,none⟩) .qed))))) (.need (I.hid (α:=(Prop)) (And (LE.le (zO out2) 1000000) (LE.le (List.length out2) 10000000))) (.fin (.ret (.v (.one (.row 1)))) [(.abs (.rq (Go.Ab.Rq.mk (Go.Ab.Ln.mk (Go.Ab.Ln.b ln2) (Go.Ab.Ln.cr ln2) (Go.Ab.Ln.code ln2)) p2 (Hd.mk m2 t2 hm2 hf2 hl2) le2 (Option.none) Bool.false out2))),(.row .evt 32 (I.hid (α:=(List Go.Ab.Evt)) (zD out2)))]))) (by kernel_rfl) ?_
    simp only [zC]
    subst hI
    simp only [nrmA,nrmB,nrlB,reduceCtorEq,HO.abs.injEq,Gh.rq.injEq,Rq.mk.injEq]
    by_cases hi:i<b.length
    · have hg:=hgo hi
      have hn:=hrn hi
      (repeat' (first|refine And.intro ?_ ?_|intro _))<;>first|omega|exact True.intro|exact False.elim ‹False›|skip
      all_goals first|omega|exact hg|exact hn|contradiction|(have:=(b.getD i 0).toNat_lt;omega)|trace_state
    · have hg:=hend hi
      rw [← hg]
      have hon:=h3.on
      simp only at hon
      (repeat' (first|refine And.intro ?_ ?_|intro _))<;>first|omega|exact True.intro|exact False.elim ‹False›|skip
      all_goals first|omega|rfl|contradiction|exact⟨by omega,by omega⟩|trace_state
  · have h0:=h1
    refine zh (let y0:=I.b2i (I.get (α:=UInt8) b 0 (Nat.cast i));let y1:=I.inb (Nat.cast i) (I.len (α:=UInt8) b);.br (I.ilt (Nat.cast i) (I.len (α:=UInt8) b)) (.need y1 (.need y1 (.need (I.hid (α:=(Prop)) (And (rqN (Go.Ab.Rq.mk ln2 p2 (Hd.mk m2 t2 hm2 hf2 hl2) le2 (Option.none) Bool.true out2)) (And (LE.le (0:Int) y0) (LE.le y0 (255:Int))))) (.need (I.inr Go.IntKind.i64 (I.add (Nat.cast i) 1)) (.need (A ⟨[(0,(.v (.one (.ptr 0 0)))),(1,(.v (.one (.p (.list .byte b))))),(10,(.v (.one (.p (.list .byte b))))),(11,(.v (.one (.p (.int .i64 (I.len (α:=UInt8) b)))))),(12,(.v (.one (.p (.int .i64 (I.add (Nat.cast i) 1))))))],[(.abs (.rq (I.hid (α:=Go.Ab.Rq) (rqF (Go.Ab.Rq.mk ln2 p2 (Hd.mk m2 t2 hm2 hf2 hl2) le2 (Option.none) Bool.true out2) (UInt8.ofNat (Int.toNat y0))))))],25,none⟩) .qed))))) (.need (I.hid (α:=(Prop)) (And (LE.le (zO out2) 1000000) (LE.le (List.length out2) 10000000))) (.fin (.ret (.v (.one (.row 1)))) [(.abs (.rq (Go.Ab.Rq.mk (Go.Ab.Ln.mk (Go.Ab.Ln.b ln2) (Go.Ab.Ln.cr ln2) (Go.Ab.Ln.code ln2)) p2 (Hd.mk m2 t2 hm2 hf2 hl2) le2 (Option.none) Bool.true out2))),(.row .evt 32 (I.hid (α:=(List Go.Ab.Evt)) (zD out2)))]))) (by kernel_rfl) ?_
    simp only [zC]
    subst hI
    simp only [nrmA,nrmB,nrlB,reduceCtorEq,HO.abs.injEq,Gh.rq.injEq,Rq.mk.injEq]
    by_cases hi:i<b.length
    · have hg:=hgo hi
      have hn:=hrn hi
      (repeat' (first|refine And.intro ?_ ?_|intro _))<;>first|omega|exact True.intro|exact False.elim ‹False›|skip
      all_goals first|omega|exact hg|exact hn|contradiction|(have:=(b.getD i 0).toNat_lt;omega)|trace_state
    · have hg:=hend hi
      rw [← hg]
      have hon:=h3.on
      simp only at hon
      (repeat' (first|refine And.intro ?_ ?_|intro _))<;>first|omega|exact True.intro|exact False.elim ‹False›|skip
      all_goals first|omega|rfl|contradiction|exact⟨by omega,by omega⟩|trace_state
  · have h0:=h1
    refine zh (let y0:=I.b2i (I.get (α:=UInt8) b 0 (Nat.cast i));let y1:=I.inb (Nat.cast i) (I.len (α:=UInt8) b);.br (I.ilt (Nat.cast i) (I.len (α:=UInt8) b)) (.need y1 (.need y1 (.need (I.hid (α:=(Prop)) (And (rqN (Go.Ab.Rq.mk ln2 p2 (Hd.mk m2 t2 hm2 hf2 hl2) le2 (Option.some ch2) Bool.false out2)) (And (LE.le (0:Int) y0) (LE.le y0 (255:Int))))) (.need (I.inr Go.IntKind.i64 (I.add (Nat.cast i) 1)) (.need (A ⟨[(0,(.v (.one (.ptr 0 0)))),(1,(.v (.one (.p (.list .byte b))))),(10,(.v (.one (.p (.list .byte b))))),(11,(.v (.one (.p (.int .i64 (I.len (α:=UInt8) b)))))),(12,(.v (.one (.p (.int .i64 (I.add (Nat.cast i) 1))))))],[(.abs (.rq (I.hid (α:=Go.Ab.Rq) (rqF (Go.Ab.Rq.mk ln2 p2 (Hd.mk m2 t2 hm2 hf2 hl2) le2 (Option.some ch2) Bool.false out2) (UInt8.ofNat (Int.toNat y0))))))],25,none⟩) .qed))))) (.need (I.hid (α:=(Prop)) (And (LE.le (zO out2) 1000000) (LE.le (List.length out2) 10000000))) (.fin (.ret (.v (.one (.row 1)))) [(.abs (.rq (Go.Ab.Rq.mk (Go.Ab.Ln.mk (Go.Ab.Ln.b ln2) (Go.Ab.Ln.cr ln2) (Go.Ab.Ln.code ln2)) p2 (Hd.mk m2 t2 hm2 hf2 hl2) le2 (Option.some (Go.Ab.Ch.mk (Go.Ab.Ln.mk (Go.Ab.Ln.b (Go.Ab.Ch.ln ch2)) (Go.Ab.Ln.cr (Go.Ab.Ch.ln ch2)) (Go.Ab.Ln.code (Go.Ab.Ch.ln ch2))) (Go.Ab.Ch.pos ch2) (Go.Ab.Ch.left ch2) (Go.Ab.Ch.all ch2) (Go.Ab.Ch.tails ch2) (Go.Ab.Ch.code ch2))) Bool.false out2))),(.row .evt 32 (I.hid (α:=(List Go.Ab.Evt)) (zD out2)))]))) (by kernel_rfl) ?_
    simp only [zC]
    subst hI
    simp only [nrmA,nrmB,nrlB,reduceCtorEq,HO.abs.injEq,Gh.rq.injEq,Rq.mk.injEq]
    by_cases hi:i<b.length
    · have hg:=hgo hi
      have hn:=hrn hi
      (repeat' (first|refine And.intro ?_ ?_|intro _))<;>first|omega|exact True.intro|exact False.elim ‹False›|skip
      all_goals first|omega|exact hg|exact hn|contradiction|(have:=(b.getD i 0).toNat_lt;omega)|trace_state
    · have hg:=hend hi
      rw [← hg]
      have hon:=h3.on
      simp only at hon
      (repeat' (first|refine And.intro ?_ ?_|intro _))<;>first|omega|exact True.intro|exact False.elim ‹False›|skip
      all_goals first|omega|rfl|contradiction|exact⟨by omega,by omega⟩|trace_state
  · have h0:=h1
    refine zh (let y0:=I.b2i (I.get (α:=UInt8) b 0 (Nat.cast i));let y1:=I.inb (Nat.cast i) (I.len (α:=UInt8) b);.br (I.ilt (Nat.cast i) (I.len (α:=UInt8) b)) (.need y1 (.need y1 (.need (I.hid (α:=(Prop)) (And (rqN (Go.Ab.Rq.mk ln2 p2 (Hd.mk m2 t2 hm2 hf2 hl2) le2 (Option.some ch2) Bool.true out2)) (And (LE.le (0:Int) y0) (LE.le y0 (255:Int))))) (.need (I.inr Go.IntKind.i64 (I.add (Nat.cast i) 1)) (.need (A ⟨[(0,(.v (.one (.ptr 0 0)))),(1,(.v (.one (.p (.list .byte b))))),(10,(.v (.one (.p (.list .byte b))))),(11,(.v (.one (.p (.int .i64 (I.len (α:=UInt8) b)))))),(12,(.v (.one (.p (.int .i64 (I.add (Nat.cast i) 1))))))],[(.abs (.rq (I.hid (α:=Go.Ab.Rq) (rqF (Go.Ab.Rq.mk ln2 p2 (Hd.mk m2 t2 hm2 hf2 hl2) le2 (Option.some ch2) Bool.true out2) (UInt8.ofNat (Int.toNat y0))))))],25,none⟩) .qed))))) (.need (I.hid (α:=(Prop)) (And (LE.le (zO out2) 1000000) (LE.le (List.length out2) 10000000))) (.fin (.ret (.v (.one (.row 1)))) [(.abs (.rq (Go.Ab.Rq.mk (Go.Ab.Ln.mk (Go.Ab.Ln.b ln2) (Go.Ab.Ln.cr ln2) (Go.Ab.Ln.code ln2)) p2 (Hd.mk m2 t2 hm2 hf2 hl2) le2 (Option.some (Go.Ab.Ch.mk (Go.Ab.Ln.mk (Go.Ab.Ln.b (Go.Ab.Ch.ln ch2)) (Go.Ab.Ln.cr (Go.Ab.Ch.ln ch2)) (Go.Ab.Ln.code (Go.Ab.Ch.ln ch2))) (Go.Ab.Ch.pos ch2) (Go.Ab.Ch.left ch2) (Go.Ab.Ch.all ch2) (Go.Ab.Ch.tails ch2) (Go.Ab.Ch.code ch2))) Bool.true out2))),(.row .evt 32 (I.hid (α:=(List Go.Ab.Evt)) (zD out2)))]))) (by kernel_rfl) ?_
    simp only [zC]
    subst hI
    simp only [nrmA,nrmB,nrlB,reduceCtorEq,HO.abs.injEq,Gh.rq.injEq,Rq.mk.injEq]
    by_cases hi:i<b.length
    · have hg:=hgo hi
      have hn:=hrn hi
      (repeat' (first|refine And.intro ?_ ?_|intro _))<;>first|omega|exact True.intro|exact False.elim ‹False›|skip
      all_goals first|omega|exact hg|exact hn|contradiction|(have:=(b.getD i 0).toNat_lt;omega)|trace_state
    · have hg:=hend hi
      rw [← hg]
      have hon:=h3.on
      simp only at hon
      (repeat' (first|refine And.intro ?_ ?_|intro _))<;>first|omega|exact True.intro|exact False.elim ‹False›|skip
      all_goals first|omega|rfl|contradiction|exact⟨by omega,by omega⟩|trace_state
theorem zez (ln:Ln) (p:Int) (m tg:Str) (hm:Int) (hf:List Fld) (hl le:Int) (ch:Ch) (out:List Evt) (b:Str) (hneed:rqN0 ⟨ln,p,⟨m,tg,hm,hf,hl⟩,le,some ch,true,out⟩ b):Spc Tryz.prog 9 [.v (.one (.ptr 0 0)),.v (.one (.p (.list .byte b)))] [.abs (.rq ⟨ln,p,⟨m,tg,hm,hf,hl⟩,le,some ch,true,out⟩)] (.ret (.v (.one (.row 1)))) [.abs (.rq ((zF ⟨ln,p,⟨m,tg,hm,hf,hl⟩,le,some ch,true,out⟩ b))),.row .evt 32 ((zD (zF ⟨ln,p,⟨m,tg,hm,hf,hl⟩,le,some ch,true,out⟩ b).out))]:=by
  obtain⟨n,hI0,hnb⟩:=hneed
  have hat:=zbZ hI0 b
  refine spcG zu mixed Tryz.func9 (by kernel_rfl) { cfgQ with fz:=[],keep:=some [0,1,4,6,10,11,12]} [wJ,wI,yS,yR] (by kernel_rfl) ?_
  intro I X hI hX
  refine zh (.code 0 [1,1,0,1,0] ⟨[(12,(.v (.one (.p (.int .i64 0))))),(11,(.v (.one (.p (.int .i64 (I.len (α:=UInt8) b)))))),(10,(.v (.one (.p (.list .byte b))))),(4,(.v (.one .nilS))),(0,(.v (.one (.ptr 0 0)))),(1,(.v (.one (.p (.list .byte b)))))],[(.obj 57 [(.ptr 1 0),(.p (.int .i64 p)),(.p (.str m)),(.p (.str tg)),(.p (.int .i64 hm)),(.row 2),(.p (.int .i64 hl)),(.p (.int .i64 le)),(.ptr 3 0),.nilS]),(.pack [(.obj 82 [(.row 1),(.p (.bool (Go.Ab.Ln.cr ln))),(.p (.int .i64 (Go.Ab.Ln.code ln)))]),(.row .byte 5 (Go.Ab.Ln.b ln))]),(.row .fld 51 hf),(.pack [(.obj 98 [(.ptr 1 0),(.p (.int .i64 (Go.Ab.Ch.pos ch))),(.p (.int .i64 (Go.Ab.Ch.left ch))),(.p (.int .i64 (Go.Ab.Ch.all ch))),(.p (.int .i64 (Go.Ab.Ch.tails ch))),(.p (.int .i64 (Go.Ab.Ch.code ch)))]),(.pack [(.obj 82 [(.row 1),(.p (.bool (Go.Ab.Ln.cr (Go.Ab.Ch.ln ch)))),(.p (.int .i64 (Go.Ab.Ln.code (Go.Ab.Ch.ln ch))))]),(.row .byte 5 (Go.Ab.Ln.b (Go.Ab.Ch.ln ch)))])]),(.row .evt 32 out)],25,none⟩) (by kernel_rfl) ?_
  simp only [zC]
  have hr:({ (⟨ln,p,⟨m,tg,hm,hf,hl⟩,le,some ch,true,out⟩:Rq) with out:=[]}:Rq)=(⟨ln,p,⟨m,tg,hm,hf,hl⟩,le,some ch,true,[]⟩:Rq):=rfl
  unfold rqAt at hat
  unfold zF
  rw [hr] at hat ⊢
  refine yw hI zu mixed [wJ,wI,yS,yR] hX [0,1,10,11,12] (fun(g:Nat × Rq)=>match g with|(i,r)=>i≤b.length∧r=yE (⟨ln,p,⟨m,tg,hm,hf,hl⟩,le,some ch,true,[]⟩:Rq) (b.take i)∧RqI r (n+i)∧zO r.out≤i) (fun(g:Nat × Rq)=>match g with|(i,r)=>⟨[(0,.v (.one (.ptr 0 0))),(1,.v (.one (.p (.list .byte b)))),(10,.v (.one (.p (.list .byte b)))),(11,.v (.one (.p (.int .i64 ((I.len (α:=UInt8) b)))))),(12,.v (.one (.p (.int .i64 i))))],[.abs (.rq r)],25,none⟩) (fun(g:Nat × Rq)=>match g with|(i,r)=>b.length - i) (0,(⟨ln,p,⟨m,tg,hm,hf,hl⟩,le,some ch,true,[]⟩:Rq)) (by kernel_rfl) (by kernel_rfl) ?_ ?_
  · exact⟨Nat.zero_le _,rfl,hat.1,hat.2⟩
  rintro⟨i,⟨ln2,p2,⟨m2,t2,hm2,hf2,hl2⟩,le2,ck2,own2,out2⟩⟩ ⟨h1,h2,h3,h4⟩ A hA
  simp only at hA h1 h2 h3 h4
  have hrn:i<b.length→rqN _:=fun h=>⟨n+i,by omega,h3⟩
  have hgo:i<b.length→_:=fun h=>hA (i+1,rqF ⟨ln2,p2,⟨m2,t2,hm2,hf2,hl2⟩,le2,ck2,own2,out2⟩ (b.getD i 0)) ⟨by simp only;omega,by simp only;rw [U3 _ _ h,← h2],by simp only;exact zdj h3 _,by simp only;have:=Ws ⟨ln2,p2,⟨m2,t2,hm2,hf2,hl2⟩,le2,ck2,own2,out2⟩ (b.getD i 0);simp only at this;omega⟩ (by simp only;omega)
  have hend: ¬ i<b.length→_:=fun h=>h2.trans (by rw [List.take_of_length_le (by omega)])
  rcases ck2 with _|ch2<;>rcases own2 with _|_
  · have h0:=h1
    refine zh (let y0:=I.b2i (I.get (α:=UInt8) b 0 (Nat.cast i));let y1:=I.inb (Nat.cast i) (I.len (α:=UInt8) b);.br (I.ilt (Nat.cast i) (I.len (α:=UInt8) b)) (.need y1 (.need y1 (.need (I.hid (α:=(Prop)) (And (rqN (Go.Ab.Rq.mk ln2 p2 (Hd.mk m2 t2 hm2 hf2 hl2) le2 (Option.none) Bool.false out2)) (And (LE.le (0:Int) y0) (LE.le y0 (255:Int))))) (.need (I.inr Go.IntKind.i64 (I.add (Nat.cast i) 1)) (.need (A ⟨[(0,(.v (.one (.ptr 0 0)))),(1,(.v (.one (.p (.list .byte b))))),(10,(.v (.one (.p (.list .byte b))))),(11,(.v (.one (.p (.int .i64 (I.len (α:=UInt8) b)))))),(12,(.v (.one (.p (.int .i64 (I.add (Nat.cast i) 1))))))],[(.abs (.rq (I.hid (α:=Go.Ab.Rq) (rqF (Go.Ab.Rq.mk ln2 p2 (Hd.mk m2 t2 hm2 hf2 hl2) le2 (Option.none) Bool.false out2) (UInt8.ofNat (Int.toNat y0))))))],25,none⟩) .qed))))) (.need (I.hid (α:=(Prop)) (And (LE.le (zO out2) 1000000) (LE.le (List.length out2) 10000000))) (.fin (.ret (.v (.one (.row 1)))) [(.abs (.rq (Go.Ab.Rq.mk (Go.Ab.Ln.mk (Go.Ab.Ln.b ln2) (Go.Ab.Ln.cr ln2) (Go.Ab.Ln.code ln2)) p2 (Hd.mk m2 t2 hm2 hf2 hl2) le2 (Option.none) Bool.false out2))),(.row .evt 32 (I.hid (α:=(List Go.Ab.Evt)) (zD out2)))]))) (by kernel_rfl) ?_
    simp only [zC]
    subst hI
    simp only [nrmA,nrmB,nrlB,reduceCtorEq,HO.abs.injEq,Gh.rq.injEq,Rq.mk.injEq]
    by_cases hi:i<b.length
    · have hg:=hgo hi
      have hn:=hrn hi
      (repeat' (first|refine And.intro ?_ ?_|intro _))<;>first|omega|exact True.intro|exact False.elim ‹False›|skip
      all_goals first|omega|exact hg|exact hn|contradiction|(have:=(b.getD i 0).toNat_lt;omega)|trace_state
    · have hg:=hend hi
      rw [← hg]
      have hon:=h3.on
      simp only at hon
      (repeat' (first|refine And.intro ?_ ?_|intro _))<;>first|omega|exact True.intro|exact False.elim ‹False›|skip
      all_goals first|omega|rfl|contradiction|exact⟨by omega,by omega⟩|trace_state
  · have h0:=h1
    refine zh (let y0:=I.b2i (I.get (α:=UInt8) b 0 (Nat.cast i));let y1:=I.inb (Nat.cast i) (I.len (α:=UInt8) b);.br (I.ilt (Nat.cast i) (I.len (α:=UInt8) b)) (.need y1 (.need y1 (.need (I.hid (α:=(Prop)) (And (rqN (Go.Ab.Rq.mk ln2 p2 (Hd.mk m2 t2 hm2 hf2 hl2) le2 (Option.none) Bool.true out2)) (And (LE.le (0:Int) y0) (LE.le y0 (255:Int))))) (.need (I.inr Go.IntKind.i64 (I.add (Nat.cast i) 1)) (.need (A ⟨[(0,(.v (.one (.ptr 0 0)))),(1,(.v (.one (.p (.list .byte b))))),(10,(.v (.one (.p (.list .byte b))))),(11,(.v (.one (.p (.int .i64 (I.len (α:=UInt8) b)))))),(12,(.v (.one (.p (.int .i64 (I.add (Nat.cast i) 1))))))],[(.abs (.rq (I.hid (α:=Go.Ab.Rq) (rqF (Go.Ab.Rq.mk ln2 p2 (Hd.mk m2 t2 hm2 hf2 hl2) le2 (Option.none) Bool.true out2) (UInt8.ofNat (Int.toNat y0))))))],25,none⟩) .qed))))) (.need (I.hid (α:=(Prop)) (And (LE.le (zO out2) 1000000) (LE.le (List.length out2) 10000000))) (.fin (.ret (.v (.one (.row 1)))) [(.abs (.rq (Go.Ab.Rq.mk (Go.Ab.Ln.mk (Go.Ab.Ln.b ln2) (Go.Ab.Ln.cr ln2) (Go.Ab.Ln.code ln2)) p2 (Hd.mk m2 t2 hm2 hf2 hl2) le2 (Option.none) Bool.true out2))),(.row .evt 32 (I.hid (α:=(List Go.Ab.Evt)) (zD out2)))]))) (by kernel_rfl) ?_
    simp only [zC]
    subst hI
    simp only [nrmA,nrmB,nrlB,reduceCtorEq,HO.abs.injEq,Gh.rq.injEq,Rq.mk.injEq]
    by_cases hi:i<b.length
    · have hg:=hgo hi
      have hn:=hrn hi
      (repeat' (first|refine And.intro ?_ ?_|intro _))<;>first|omega|exact True.intro|exact False.elim ‹False›|skip
      all_goals first|omega|exact hg|exact hn|contradiction|(have:=(b.getD i 0).toNat_lt;omega)|trace_state
    · have hg:=hend hi
      rw [← hg]
      have hon:=h3.on
      simp only at hon
      (repeat' (first|refine And.intro ?_ ?_|intro _))<;>first|omega|exact True.intro|exact False.elim ‹False›|skip
      all_goals first|omega|rfl|contradiction|exact⟨by omega,by omega⟩|trace_state
  · have h0:=h1
    refine zh (let y0:=I.b2i (I.get (α:=UInt8) b 0 (Nat.cast i));let y1:=I.inb (Nat.cast i) (I.len (α:=UInt8) b);.br (I.ilt (Nat.cast i) (I.len (α:=UInt8) b)) (.need y1 (.need y1 (.need (I.hid (α:=(Prop)) (And (rqN (Go.Ab.Rq.mk ln2 p2 (Hd.mk m2 t2 hm2 hf2 hl2) le2 (Option.some ch2) Bool.false out2)) (And (LE.le (0:Int) y0) (LE.le y0 (255:Int))))) (.need (I.inr Go.IntKind.i64 (I.add (Nat.cast i) 1)) (.need (A ⟨[(0,(.v (.one (.ptr 0 0)))),(1,(.v (.one (.p (.list .byte b))))),(10,(.v (.one (.p (.list .byte b))))),(11,(.v (.one (.p (.int .i64 (I.len (α:=UInt8) b)))))),(12,(.v (.one (.p (.int .i64 (I.add (Nat.cast i) 1))))))],[(.abs (.rq (I.hid (α:=Go.Ab.Rq) (rqF (Go.Ab.Rq.mk ln2 p2 (Hd.mk m2 t2 hm2 hf2 hl2) le2 (Option.some ch2) Bool.false out2) (UInt8.ofNat (Int.toNat y0))))))],25,none⟩) .qed))))) (.need (I.hid (α:=(Prop)) (And (LE.le (zO out2) 1000000) (LE.le (List.length out2) 10000000))) (.fin (.ret (.v (.one (.row 1)))) [(.abs (.rq (Go.Ab.Rq.mk (Go.Ab.Ln.mk (Go.Ab.Ln.b ln2) (Go.Ab.Ln.cr ln2) (Go.Ab.Ln.code ln2)) p2 (Hd.mk m2 t2 hm2 hf2 hl2) le2 (Option.some (Go.Ab.Ch.mk (Go.Ab.Ln.mk (Go.Ab.Ln.b (Go.Ab.Ch.ln ch2)) (Go.Ab.Ln.cr (Go.Ab.Ch.ln ch2)) (Go.Ab.Ln.code (Go.Ab.Ch.ln ch2))) (Go.Ab.Ch.pos ch2) (Go.Ab.Ch.left ch2) (Go.Ab.Ch.all ch2) (Go.Ab.Ch.tails ch2) (Go.Ab.Ch.code ch2))) Bool.false out2))),(.row .evt 32 (I.hid (α:=(List Go.Ab.Evt)) (zD out2)))]))) (by kernel_rfl) ?_
    simp only [zC]
    subst hI
    simp only [nrmA,nrmB,nrlB,reduceCtorEq,HO.abs.injEq,Gh.rq.injEq,Rq.mk.injEq]
    by_cases hi:i<b.length
    · have hg:=hgo hi
      have hn:=hrn hi
      (repeat' (first|refine And.intro ?_ ?_|intro _))<;>first|omega|exact True.intro|exact False.elim ‹False›|skip
      all_goals first|omega|exact hg|exact hn|contradiction|(have:=(b.getD i 0).toNat_lt;omega)|trace_state
    · have hg:=hend hi
      rw [← hg]
      have hon:=h3.on
      simp only at hon
      (repeat' (first|refine And.intro ?_ ?_|intro _))<;>first|omega|exact True.intro|exact False.elim ‹False›|skip
      all_goals first|omega|rfl|contradiction|exact⟨by omega,by omega⟩|trace_state
  · have h0:=h1
    refine zh (let y0:=I.b2i (I.get (α:=UInt8) b 0 (Nat.cast i));let y1:=I.inb (Nat.cast i) (I.len (α:=UInt8) b);.br (I.ilt (Nat.cast i) (I.len (α:=UInt8) b)) (.need y1 (.need y1 (.need (I.hid (α:=(Prop)) (And (rqN (Go.Ab.Rq.mk ln2 p2 (Hd.mk m2 t2 hm2 hf2 hl2) le2 (Option.some ch2) Bool.true out2)) (And (LE.le (0:Int) y0) (LE.le y0 (255:Int))))) (.need (I.inr Go.IntKind.i64 (I.add (Nat.cast i) 1)) (.need (A ⟨[(0,(.v (.one (.ptr 0 0)))),(1,(.v (.one (.p (.list .byte b))))),(10,(.v (.one (.p (.list .byte b))))),(11,(.v (.one (.p (.int .i64 (I.len (α:=UInt8) b)))))),(12,(.v (.one (.p (.int .i64 (I.add (Nat.cast i) 1))))))],[(.abs (.rq (I.hid (α:=Go.Ab.Rq) (rqF (Go.Ab.Rq.mk ln2 p2 (Hd.mk m2 t2 hm2 hf2 hl2) le2 (Option.some ch2) Bool.true out2) (UInt8.ofNat (Int.toNat y0))))))],25,none⟩) .qed))))) (.need (I.hid (α:=(Prop)) (And (LE.le (zO out2) 1000000) (LE.le (List.length out2) 10000000))) (.fin (.ret (.v (.one (.row 1)))) [(.abs (.rq (Go.Ab.Rq.mk (Go.Ab.Ln.mk (Go.Ab.Ln.b ln2) (Go.Ab.Ln.cr ln2) (Go.Ab.Ln.code ln2)) p2 (Hd.mk m2 t2 hm2 hf2 hl2) le2 (Option.some (Go.Ab.Ch.mk (Go.Ab.Ln.mk (Go.Ab.Ln.b (Go.Ab.Ch.ln ch2)) (Go.Ab.Ln.cr (Go.Ab.Ch.ln ch2)) (Go.Ab.Ln.code (Go.Ab.Ch.ln ch2))) (Go.Ab.Ch.pos ch2) (Go.Ab.Ch.left ch2) (Go.Ab.Ch.all ch2) (Go.Ab.Ch.tails ch2) (Go.Ab.Ch.code ch2))) Bool.true out2))),(.row .evt 32 (I.hid (α:=(List Go.Ab.Evt)) (zD out2)))]))) (by kernel_rfl) ?_
    simp only [zC]
    subst hI
    simp only [nrmA,nrmB,nrlB,reduceCtorEq,HO.abs.injEq,Gh.rq.injEq,Rq.mk.injEq]
    by_cases hi:i<b.length
    · have hg:=hgo hi
      have hn:=hrn hi
      (repeat' (first|refine And.intro ?_ ?_|intro _))<;>first|omega|exact True.intro|exact False.elim ‹False›|skip
      all_goals first|omega|exact hg|exact hn|contradiction|(have:=(b.getD i 0).toNat_lt;omega)|trace_state
    · have hg:=hend hi
      rw [← hg]
      have hon:=h3.on
      simp only at hon
      (repeat' (first|refine And.intro ?_ ?_|intro _))<;>first|omega|exact True.intro|exact False.elim ‹False›|skip
      all_goals first|omega|rfl|contradiction|exact⟨by omega,by omega⟩|trace_state
theorem zeA (ln:Ln) (p:Int) (m tg:Str) (hm:Int) (hf:List Fld) (hl le:Int) (ch:Ch) (out:List Evt) (b:Str) (hneed:rqN0 ⟨ln,p,⟨m,tg,hm,hf,hl⟩,le,some ch,false,out⟩ b):Spc Tryz.prog 9 [.v (.one (.ptr 0 0)),.v (.one (.p (.list .byte b)))] [.abs (.rq ⟨ln,p,⟨m,tg,hm,hf,hl⟩,le,some ch,false,out⟩)] (.ret (.v (.one (.row 1)))) [.abs (.rq ((zF ⟨ln,p,⟨m,tg,hm,hf,hl⟩,le,some ch,false,out⟩ b))),.row .evt 32 ((zD (zF ⟨ln,p,⟨m,tg,hm,hf,hl⟩,le,some ch,false,out⟩ b).out))]:=by
  obtain⟨n,hI0,hnb⟩:=hneed
  have hat:=zbZ hI0 b
  refine spcG zu mixed Tryz.func9 (by kernel_rfl) { cfgQ with fz:=[],keep:=some [0,1,4,6,10,11,12]} [wJ,wI,yS,yR] (by kernel_rfl) ?_
  intro I X hI hX
  refine zh (.code 0 [1,1,0,1,0] ⟨[(12,(.v (.one (.p (.int .i64 0))))),(11,(.v (.one (.p (.int .i64 (I.len (α:=UInt8) b)))))),(10,(.v (.one (.p (.list .byte b))))),(4,(.v (.one .nilS))),(0,(.v (.one (.ptr 0 0)))),(1,(.v (.one (.p (.list .byte b)))))],[(.obj 57 [(.ptr 1 0),(.p (.int .i64 p)),(.p (.str m)),(.p (.str tg)),(.p (.int .i64 hm)),(.p (.list .fld hf)),(.p (.int .i64 hl)),(.p (.int .i64 le)),(.ptr 2 0),.nilS]),(.pack [(.obj 82 [(.row 1),(.p (.bool (Go.Ab.Ln.cr ln))),(.p (.int .i64 (Go.Ab.Ln.code ln)))]),(.row .byte 5 (Go.Ab.Ln.b ln))]),(.pack [(.obj 98 [(.ptr 1 0),(.p (.int .i64 (Go.Ab.Ch.pos ch))),(.p (.int .i64 (Go.Ab.Ch.left ch))),(.p (.int .i64 (Go.Ab.Ch.all ch))),(.p (.int .i64 (Go.Ab.Ch.tails ch))),(.p (.int .i64 (Go.Ab.Ch.code ch)))]),(.pack [(.obj 82 [(.row 1),(.p (.bool (Go.Ab.Ln.cr (Go.Ab.Ch.ln ch)))),(.p (.int .i64 (Go.Ab.Ln.code (Go.Ab.Ch.ln ch))))]),(.row .byte 5 (Go.Ab.Ln.b (Go.Ab.Ch.ln ch)))])]),(.row .evt 32 out)],25,none⟩) (by kernel_rfl) ?_
  simp only [zC]
  have hr:({ (⟨ln,p,⟨m,tg,hm,hf,hl⟩,le,some ch,false,out⟩:Rq) with out:=[]}:Rq)=(⟨ln,p,⟨m,tg,hm,hf,hl⟩,le,some ch,false,[]⟩:Rq):=rfl
  unfold rqAt at hat
  unfold zF
  rw [hr] at hat ⊢
  refine yw hI zu mixed [wJ,wI,yS,yR] hX [0,1,10,11,12] (fun(g:Nat × Rq)=>match g with|(i,r)=>i≤b.length∧r=yE (⟨ln,p,⟨m,tg,hm,hf,hl⟩,le,some ch,false,[]⟩:Rq) (b.take i)∧RqI r (n+i)∧zO r.out≤i) (fun(g:Nat × Rq)=>match g with|(i,r)=>⟨[(0,.v (.one (.ptr 0 0))),(1,.v (.one (.p (.list .byte b)))),(10,.v (.one (.p (.list .byte b)))),(11,.v (.one (.p (.int .i64 ((I.len (α:=UInt8) b)))))),(12,.v (.one (.p (.int .i64 i))))],[.abs (.rq r)],25,none⟩) (fun(g:Nat × Rq)=>match g with|(i,r)=>b.length - i) (0,(⟨ln,p,⟨m,tg,hm,hf,hl⟩,le,some ch,false,[]⟩:Rq)) (by kernel_rfl) (by kernel_rfl) ?_ ?_
  · exact⟨Nat.zero_le _,rfl,hat.1,hat.2⟩
  rintro⟨i,⟨ln2,p2,⟨m2,t2,hm2,hf2,hl2⟩,le2,ck2,own2,out2⟩⟩ ⟨h1,h2,h3,h4⟩ A hA
  simp only at hA h1 h2 h3 h4
  have hrn:i<b.length→rqN _:=fun h=>⟨n+i,by omega,h3⟩
  have hgo:i<b.length→_:=fun h=>hA (i+1,rqF ⟨ln2,p2,⟨m2,t2,hm2,hf2,hl2⟩,le2,ck2,own2,out2⟩ (b.getD i 0)) ⟨by simp only;omega,by simp only;rw [U3 _ _ h,← h2],by simp only;exact zdj h3 _,by simp only;have:=Ws ⟨ln2,p2,⟨m2,t2,hm2,hf2,hl2⟩,le2,ck2,own2,out2⟩ (b.getD i 0);simp only at this;omega⟩ (by simp only;omega)
  have hend: ¬ i<b.length→_:=fun h=>h2.trans (by rw [List.take_of_length_le (by omega)])
  rcases ck2 with _|ch2<;>rcases own2 with _|_
  · have h0:=h1
    refine zh (let y0:=I.b2i (I.get (α:=UInt8) b 0 (Nat.cast i));let y1:=I.inb (Nat.cast i) (I.len (α:=UInt8) b);.br (I.ilt (Nat.cast i) (I.len (α:=UInt8) b)) (.need y1 (.need y1 (.need (I.hid (α:=(Prop)) (And (rqN (Go.Ab.Rq.mk ln2 p2 (Hd.mk m2 t2 hm2 hf2 hl2) le2 (Option.none) Bool.false out2)) (And (LE.le (0:Int) y0) (LE.le y0 (255:Int))))) (.need (I.inr Go.IntKind.i64 (I.add (Nat.cast i) 1)) (.need (A ⟨[(0,(.v (.one (.ptr 0 0)))),(1,(.v (.one (.p (.list .byte b))))),(10,(.v (.one (.p (.list .byte b))))),(11,(.v (.one (.p (.int .i64 (I.len (α:=UInt8) b)))))),(12,(.v (.one (.p (.int .i64 (I.add (Nat.cast i) 1))))))],[(.abs (.rq (I.hid (α:=Go.Ab.Rq) (rqF (Go.Ab.Rq.mk ln2 p2 (Hd.mk m2 t2 hm2 hf2 hl2) le2 (Option.none) Bool.false out2) (UInt8.ofNat (Int.toNat y0))))))],25,none⟩) .qed))))) (.need (I.hid (α:=(Prop)) (And (LE.le (zO out2) 1000000) (LE.le (List.length out2) 10000000))) (.fin (.ret (.v (.one (.row 1)))) [(.abs (.rq (Go.Ab.Rq.mk (Go.Ab.Ln.mk (Go.Ab.Ln.b ln2) (Go.Ab.Ln.cr ln2) (Go.Ab.Ln.code ln2)) p2 (Hd.mk m2 t2 hm2 hf2 hl2) le2 (Option.none) Bool.false out2))),(.row .evt 32 (I.hid (α:=(List Go.Ab.Evt)) (zD out2)))]))) (by kernel_rfl) ?_
    simp only [zC]
    subst hI
    simp only [nrmA,nrmB,nrlB,reduceCtorEq,HO.abs.injEq,Gh.rq.injEq,Rq.mk.injEq]
    by_cases hi:i<b.length
    · have hg:=hgo hi
      have hn:=hrn hi
      (repeat' (first|refine And.intro ?_ ?_|intro _))<;>first|omega|exact True.intro|exact False.elim ‹False›|skip
      all_goals first|omega|exact hg|exact hn|contradiction|(have:=(b.getD i 0).toNat_lt;omega)|trace_state
    · have hg:=hend hi
      rw [← hg]
      have hon:=h3.on
      simp only at hon
      (repeat' (first|refine And.intro ?_ ?_|intro _))<;>first|omega|exact True.intro|exact False.elim ‹False›|skip
      all_goals first|omega|rfl|contradiction|exact⟨by omega,by omega⟩|trace_state
  · have h0:=h1
    refine zh (let y0:=I.b2i (I.get (α:=UInt8) b 0 (Nat.cast i));let y1:=I.inb (Nat.cast i) (I.len (α:=UInt8) b);.br (I.ilt (Nat.cast i) (I.len (α:=UInt8) b)) (.need y1 (.need y1 (.need (I.hid (α:=(Prop)) (And (rqN (Go.Ab.Rq.mk ln2 p2 (Hd.mk m2 t2 hm2 hf2 hl2) le2 (Option.none) Bool.true out2)) (And (LE.le (0:Int) y0) (LE.le y0 (255:Int))))) (.need (I.inr Go.IntKind.i64 (I.add (Nat.cast i) 1)) (.need (A ⟨[(0,(.v (.one (.ptr 0 0)))),(1,(.v (.one (.p (.list .byte b))))),(10,(.v (.one (.p (.list .byte b))))),(11,(.v (.one (.p (.int .i64 (I.len (α:=UInt8) b)))))),(12,(.v (.one (.p (.int .i64 (I.add (Nat.cast i) 1))))))],[(.abs (.rq (I.hid (α:=Go.Ab.Rq) (rqF (Go.Ab.Rq.mk ln2 p2 (Hd.mk m2 t2 hm2 hf2 hl2) le2 (Option.none) Bool.true out2) (UInt8.ofNat (Int.toNat y0))))))],25,none⟩) .qed))))) (.need (I.hid (α:=(Prop)) (And (LE.le (zO out2) 1000000) (LE.le (List.length out2) 10000000))) (.fin (.ret (.v (.one (.row 1)))) [(.abs (.rq (Go.Ab.Rq.mk (Go.Ab.Ln.mk (Go.Ab.Ln.b ln2) (Go.Ab.Ln.cr ln2) (Go.Ab.Ln.code ln2)) p2 (Hd.mk m2 t2 hm2 hf2 hl2) le2 (Option.none) Bool.true out2))),(.row .evt 32 (I.hid (α:=(List Go.Ab.Evt)) (zD out2)))]))) (by kernel_rfl) ?_
    simp only [zC]
    subst hI
    simp only [nrmA,nrmB,nrlB,reduceCtorEq,HO.abs.injEq,Gh.rq.injEq,Rq.mk.injEq]
    by_cases hi:i<b.length
    · have hg:=hgo hi
      have hn:=hrn hi
      (repeat' (first|refine And.intro ?_ ?_|intro _))<;>first|omega|exact True.intro|exact False.elim ‹False›|skip
      all_goals first|omega|exact hg|exact hn|contradiction|(have:=(b.getD i 0).toNat_lt;omega)|trace_state
    · have hg:=hend hi
      rw [← hg]
      have hon:=h3.on
      simp only at hon
      (repeat' (first|refine And.intro ?_ ?_|intro _))<;>first|omega|exact True.intro|exact False.elim ‹False›|skip
      all_goals first|omega|rfl|contradiction|exact⟨by omega,by omega⟩|trace_state
  · have h0:=h1
    refine zh (let y0:=I.b2i (I.get (α:=UInt8) b 0 (Nat.cast i));let y1:=I.inb (Nat.cast i) (I.len (α:=UInt8) b);.br (I.ilt (Nat.cast i) (I.len (α:=UInt8) b)) (.need y1 (.need y1 (.need (I.hid (α:=(Prop)) (And (rqN (Go.Ab.Rq.mk ln2 p2 (Hd.mk m2 t2 hm2 hf2 hl2) le2 (Option.some ch2) Bool.false out2)) (And (LE.le (0:Int) y0) (LE.le y0 (255:Int))))) (.need (I.inr Go.IntKind.i64 (I.add (Nat.cast i) 1)) (.need (A ⟨[(0,(.v (.one (.ptr 0 0)))),(1,(.v (.one (.p (.list .byte b))))),(10,(.v (.one (.p (.list .byte b))))),(11,(.v (.one (.p (.int .i64 (I.len (α:=UInt8) b)))))),(12,(.v (.one (.p (.int .i64 (I.add (Nat.cast i) 1))))))],[(.abs (.rq (I.hid (α:=Go.Ab.Rq) (rqF (Go.Ab.Rq.mk ln2 p2 (Hd.mk m2 t2 hm2 hf2 hl2) le2 (Option.some ch2) Bool.false out2) (UInt8.ofNat (Int.toNat y0))))))],25,none⟩) .qed))))) (.need (I.hid (α:=(Prop)) (And (LE.le (zO out2) 1000000) (LE.le (List.length out2) 10000000))) (.fin (.ret (.v (.one (.row 1)))) [(.abs (.rq (Go.Ab.Rq.mk (Go.Ab.Ln.mk (Go.Ab.Ln.b ln2) (Go.Ab.Ln.cr ln2) (Go.Ab.Ln.code ln2)) p2 (Hd.mk m2 t2 hm2 hf2 hl2) le2 (Option.some (Go.Ab.Ch.mk (Go.Ab.Ln.mk (Go.Ab.Ln.b (Go.Ab.Ch.ln ch2)) (Go.Ab.Ln.cr (Go.Ab.Ch.ln ch2)) (Go.Ab.Ln.code (Go.Ab.Ch.ln ch2))) (Go.Ab.Ch.pos ch2) (Go.Ab.Ch.left ch2) (Go.Ab.Ch.all ch2) (Go.Ab.Ch.tails ch2) (Go.Ab.Ch.code ch2))) Bool.false out2))),(.row .evt 32 (I.hid (α:=(List Go.Ab.Evt)) (zD out2)))]))) (by kernel_rfl) ?_
    simp only [zC]
    subst hI
    simp only [nrmA,nrmB,nrlB,reduceCtorEq,HO.abs.injEq,Gh.rq.injEq,Rq.mk.injEq]
    by_cases hi:i<b.length
    · have hg:=hgo hi
      have hn:=hrn hi
      (repeat' (first|refine And.intro ?_ ?_|intro _))<;>first|omega|exact True.intro|exact False.elim ‹False›|skip
      all_goals first|omega|exact hg|exact hn|contradiction|(have:=(b.getD i 0).toNat_lt;omega)|trace_state
    · have hg:=hend hi
      rw [← hg]
      have hon:=h3.on
      simp only at hon
      (repeat' (first|refine And.intro ?_ ?_|intro _))<;>first|omega|exact True.intro|exact False.elim ‹False›|skip
      all_goals first|omega|rfl|contradiction|exact⟨by omega,by omega⟩|trace_state
  · have h0:=h1
    refine zh (let y0:=I.b2i (I.get (α:=UInt8) b 0 (Nat.cast i));let y1:=I.inb (Nat.cast i) (I.len (α:=UInt8) b);.br (I.ilt (Nat.cast i) (I.len (α:=UInt8) b)) (.need y1 (.need y1 (.need (I.hid (α:=(Prop)) (And (rqN (Go.Ab.Rq.mk ln2 p2 (Hd.mk m2 t2 hm2 hf2 hl2) le2 (Option.some ch2) Bool.true out2)) (And (LE.le (0:Int) y0) (LE.le y0 (255:Int))))) (.need (I.inr Go.IntKind.i64 (I.add (Nat.cast i) 1)) (.need (A ⟨[(0,(.v (.one (.ptr 0 0)))),(1,(.v (.one (.p (.list .byte b))))),(10,(.v (.one (.p (.list .byte b))))),(11,(.v (.one (.p (.int .i64 (I.len (α:=UInt8) b)))))),(12,(.v (.one (.p (.int .i64 (I.add (Nat.cast i) 1))))))],[(.abs (.rq (I.hid (α:=Go.Ab.Rq) (rqF (Go.Ab.Rq.mk ln2 p2 (Hd.mk m2 t2 hm2 hf2 hl2) le2 (Option.some ch2) Bool.true out2) (UInt8.ofNat (Int.toNat y0))))))],25,none⟩) .qed))))) (.need (I.hid (α:=(Prop)) (And (LE.le (zO out2) 1000000) (LE.le (List.length out2) 10000000))) (.fin (.ret (.v (.one (.row 1)))) [(.abs (.rq (Go.Ab.Rq.mk (Go.Ab.Ln.mk (Go.Ab.Ln.b ln2) (Go.Ab.Ln.cr ln2) (Go.Ab.Ln.code ln2)) p2 (Hd.mk m2 t2 hm2 hf2 hl2) le2 (Option.some (Go.Ab.Ch.mk (Go.Ab.Ln.mk (Go.Ab.Ln.b (Go.Ab.Ch.ln ch2)) (Go.Ab.Ln.cr (Go.Ab.Ch.ln ch2)) (Go.Ab.Ln.code (Go.Ab.Ch.ln ch2))) (Go.Ab.Ch.pos ch2) (Go.Ab.Ch.left ch2) (Go.Ab.Ch.all ch2) (Go.Ab.Ch.tails ch2) (Go.Ab.Ch.code ch2))) Bool.true out2))),(.row .evt 32 (I.hid (α:=(List Go.Ab.Evt)) (zD out2)))]))) (by kernel_rfl) ?_
    simp only [zC]
    subst hI
    simp only [nrmA,nrmB,nrlB,reduceCtorEq,HO.abs.injEq,Gh.rq.injEq,Rq.mk.injEq]
    by_cases hi:i<b.length
    · have hg:=hgo hi
      have hn:=hrn hi
      (repeat' (first|refine And.intro ?_ ?_|intro _))<;>first|omega|exact True.intro|exact False.elim ‹False›|skip
      all_goals first|omega|exact hg|exact hn|contradiction|(have:=(b.getD i 0).toNat_lt;omega)|trace_state
    · have hg:=hend hi
      rw [← hg]
      have hon:=h3.on
      simp only at hon
      (repeat' (first|refine And.intro ?_ ?_|intro _))<;>first|omega|exact True.intro|exact False.elim ‹False›|skip
      all_goals first|omega|rfl|contradiction|exact⟨by omega,by omega⟩|trace_state
theorem zih (q:Rq) (b:Str) (hneed:rqN0 q b):Spc Tryz.prog 9 [.v (.one (.ptr 0 0)),.v (.one (.p (.list .byte b)))] [.abs (.rq q)] (.ret (.v (.one (.row 1)))) [.abs (.rq ((zF q b))),.row .evt 32 ((zD (zF q b).out))]:=by
  obtain⟨ln,p,⟨m,tg,hm,hf,hl⟩,le,ck,own,out⟩:=q
  cases ck with
  | none=>cases own with
    |true=>exact zeB ln p m tg hm hf hl le out b hneed
    |false=>exact zeC ln p m tg hm hf hl le out b hneed
  | some ch=>cases own with
    |true=>exact zez ln p m tg hm hf hl le ch out b hneed
    |false=>exact zeA ln p m tg hm hf hl le ch out b hneed
def Zt (I:Alg) (args:List D) (hp:List HO):Option CT:=match args,hp with
  |[.v (.one (.ptr 0 0)),.v (.one (.p (.list .byte b)))],[.abs (.rq q)]=>(fun(q:Rq) (b:Str)=>(some (.one ⟨I.hid (rqN0 q b),(.ret (.v (.one (.row 1)))),[.abs (.rq (I.hid ((zF q b)))),.row .evt 32 (I.hid ((zD (zF q b).out)))]⟩):Option CT)) q b
  |_,_=>none
theorem RV:zI Tryz.prog 9 (Zt alg):=by
  intro args hp r h
  unfold Zt at h
  split at h
  · cases h;exact fun hn=>zih _ _ hn
  · cases h
def Zr:Know Tryz.prog:=⟨9,Zt,RV⟩
def Zq:Know Tryz.prog:=⟨9,fun I=>zK I (Zt I),zf RV⟩
end Go.Proofs.YtmibhbdfigpkmaaGreatDoor
namespace Go.Proofs.YtmibhbdfigpkmaaGreatDoor
open Go Go.Sep Go.Ab
def badF:List Fld→Int
  |[]=>0
  |f::l=>if(textF f).2=0 then badF l else(textF f).2
def yQ:List Fld→Str
  |[]=>[]
  |f::l=>(textF f).1++[13,10]++yQ l
theorem zfQ (a b:List Fld):yQ (a++b)=yQ a++yQ b:=by
  induction a with
  |nil=>rfl
  |cons f l ih=>simp only [List.cons_append,yQ,ih,List.append_assoc]
def tZ (n:Int):Str:=[67,111,110,116,101,110,116,45,76,101,110,103,116,104,58,32]++decS n++[13,10,13,10]
theorem X5 (f:Fld):(textF f).1.length≤200:=by
  unfold textF
  split
  · simp
  split
  · simp
  split
  · simp
  · simp only [List.length_append,List.length_cons,List.length_nil];omega
theorem ZW: ∀ l:List Fld,(yQ l).length≤202 * l.length
  |[]=>by simp [yQ]
  | f::l=>by
    have:=X5 f
    have:=ZW l
    simp only [yQ,List.length_append,List.length_cons,List.length_nil];omega
end Go.Proofs.YtmibhbdfigpkmaaGreatDoor
namespace Go.Proofs.YtmibhbdfigpkmaaGreatDoor
open Go Go.Sep Go.Ab
set_option maxRecDepth 100000
theorem zas {fs:List Fld} {i:Nat} (h:i<fs.length):badF (fs.drop i)=if(textF (fs.getD i ⟨[],[]⟩)).2=0 then badF (fs.drop (i+1)) else(textF (fs.getD i ⟨[],[]⟩)).2:=by
  rw [List.drop_eq_getElem_cons h,badF];simp [h]
theorem Uz {fs:List Fld} {i:Nat} (h:i<fs.length):yQ (fs.take (i+1))=yQ (fs.take i)++(textF (fs.getD i ⟨[],[]⟩)).1++[13,10]:=by
  rw [List.take_succ_eq_append_getElem h,zfQ];simp [yQ,h]
end Go.Proofs.YtmibhbdfigpkmaaGreatDoor
namespace Go.Proofs.YtmibhbdfigpkmaaGreatDoor
open Go Go.Sep Go.Ab Go.RowKit
set_option maxRecDepth 100000
set_option maxHeartbeats 2000000
theorem za6 (s:ByteArray) (pos:Nat) (h:pos<s.size) (ha:128≤(s.get! pos).toNat): ∀ j,j<(Utf8.decode s pos).2→pos+j<s.size∧128≤(s.get! (pos+j)).toNat:=by
  have hn: ¬ (s.get! (pos+0)).toNat<128:=by rw [Nat.add_zero];omega
  intro j
  simp only [Utf8.decode,hn,if_false,Bool.and_eq_true,decide_eq_true_eq,beq_iff_eq,ge_iff_le]
  repeat' split
  all_goals intro hj
  all_goals(try simp only at hj)
  all_goals rcases(show j=0∨j=1∨j=2∨j=3 by omega) with rfl|rfl|rfl|rfl
  all_goals first|exact⟨h,ha⟩|omega|(constructor<;>omega)
theorem Yr (r:Int) (w:World):Calls Tryz.prog 92 #[.int .i32 r] w fun e w'=>e=.returned (.bool (Go.validRune r))∧w'=w:=by
  go_enter Tryz.func92,Tryz.ntmps92
  go_wp2
  all_goals(try go_ret)
  all_goals(refine⟨?_,rfl⟩;first|(show Ending.returned (Value.bool true)=_;rw [show Go.validRune r=true from decide_eq_true (by omega)])|(show Ending.returned (Value.bool false)=_;rw [show Go.validRune r=false from decide_eq_false (by omega)]))
theorem ziW (x:Int) (w:World):Calls Tryz.prog 77 #[.string ByteArray.empty,.int .u8 x] w fun e w'=>e=.returned (.int .i64 (-1))∧w'=w:=Tryz.strings_IndexByte _ _ _
theorem sixth (r:Int) (w:World) (h0:128≤r) (h1:r≤2147483647):Calls Tryz.prog 78 #[.string (Sep.S [32,9]),.int .i32 r] w fun e w'=>e=.returned (.int .i64 (-1))∧Below w.heap.size w w':=by
  by_cases hr:r=65533
  · subst hr
    go_enter Tryz.func78,Tryz.ntmps78
    go_wp2
    go_loopg [5,6] 2 (fun g _ _ wx=>∃ i:Nat,i+g=2∧wx=w.iter (Sep.S [32,9]) i)
    case atStart=>exact⟨0,by omega,rfl⟩
    case round=>
      obtain⟨i,hig,rfl⟩:=hrel
      have hsz:(Sep.S [32,9]).size=2:=rfl
      cases gk with
      | zero=>
        obtain rfl:i=2:=by omega
        have hnx:=run_next_end (P:=Tryz.prog) w (Sep.S [32,9]) 2
        go_wp2
        go_ret
        exact⟨rfl,(Below.refl _ w).alloc (Nat.le_refl _) _⟩
      | succ g=>
        have hi:i<(Sep.S [32,9]).size:=by rw [hsz];omega
        have hx128:((Sep.S [32,9])[i]'hi).toNat<128:=by
          rcases(show i=0∨i=1 by omega) with rfl|rfl<;>exact of_decide_eq_true (by kernel_rfl)
        have hnx:=fun ty=>run_next_ascii (P:=Tryz.prog) w (Sep.S [32,9]) i ty hi hx128
        generalize((Sep.S [32,9])[i]'hi).toNat=n at *
        have hne:((n:Int) == 65533)=false:=beq_eq_false_iff_ne.2 (by omega)
        go_wp2
        go_roundg g
        case measure=>omega
        case rel=>exact⟨i+1,by omega,rfl⟩
  · cases hv:Go.validRune r
    · go_enter Tryz.func78,Tryz.ntmps78
      go_wp2_with (go_at_call 92;refine(Yr _ _).mono ?_;rintro e w' ⟨rfl,hw⟩;rw [hw,hv])
      go_ret
      exact⟨rfl,Below.refl _ w⟩
    · obtain⟨e1,e2,e3⟩:=encode_facts r (by rw [validRune_eq];exact hv) h0
      have hcv: ∀ w,(convert 21 9 (.int .i32 r)).run Tryz.prog w=.ok (.string (Utf8.encode r)) w:=fun w=>run_convert_int_string w _ _ _ _ (by rw [Tryz.underlying21];rfl) Tryz.underlying9
      obtain⟨l,hl⟩: ∃ l,Utf8.encode r=Sep.S l:=⟨(Utf8.encode r).data.toList,rfl⟩
      rw [hl] at e1 e2 e3 hcv
      have e1:2≤l.length:=e1
      have e2:l.length≤4:=e2
      have e4: ∀ a c,l=[a,c]→128≤c.toNat:=fun a c h=>by subst h;exact e3 (show 1<2 by omega)
      clear e3 hl
      have hsz:(Sep.S [32,9]).size=2:=rfl
      by_cases h2:l.length=2
      · obtain⟨a,c,rfl⟩: ∃ a c,l=[a,c]:=by
          rcases l with _|⟨a,_|⟨c,_|_⟩⟩<;>simp_all
        have e4:=e4 a c rfl
        have hbs:(Sep.S [a,c]).size=2:=rfl
        have hs1: ∀ h:1<(Sep.S [32,9]).size,(Sep.S [32,9])[1]'h=9:=fun _=>rfl
        have hs2: ∀ h:1<(Sep.S [a,c]).size,(Sep.S [a,c])[1]'h=c:=fun _=>rfl
        have hc1:((9:Int) == (c.toNat:Int))=false:=beq_eq_false_iff_ne.2 (by omega)
        have hc2:((9:Int) != (c.toNat:Int))=true:=bne_iff_ne.2 (by omega)
        have hw2:IntKind.i64.wrap 2=2:=by rw [IntKind.wrap_i64];decide
        go_enter Tryz.func78,Tryz.ntmps78
        go_wp2_with (first|(go_at_call 92;refine(Yr _ _).mono ?_;rintro e w' ⟨rfl,hw⟩;rw [hw,hv])|((with_reducible show wpList _ _ _ (⟨_,.convert _ _ _,_,_,_,_⟩::_) _ _);refine UM rfl (v:=.string (Sep.S [a,c])) (w':=w) (hcv w) ?_;simp only [Act.put,List.setIfInBounds_toArray,List.set_cons_succ,List.set_cons_zero]))
        refine wp_scope_straight ?_
        go_wp2_with (((with_reducible show wpList _ _ _ (⟨_,.convert _ _ _,_,_,_,_⟩::_) _ _);refine UM rfl (v:=.string (Sep.S [a,c])) (w':=w) (hcv w) ?_;simp only [Act.put,List.setIfInBounds_toArray,List.set_cons_succ,List.set_cons_zero]))
        go_loopg [9] 0 (fun g v9 wx=>wx=w∧v9=.int .i64 1)
        case atStart=>exact⟨rfl,rfl⟩
        case round=>
          obtain⟨rfl,rfl⟩:=hrel
          go_wp2
          refine wp_scope_straight ?_
          go_wp2
          go_quiet (fail)
          go_wp2
          have hB:Below wr.heap.size wr (wr.drewN nq):=⟨rfl,rfl,rfl,Nat.le_refl _,fun _ _=>rfl⟩
          generalize wr.drewN nq=w2 at hB ⊢
          go_quiet (first|(go_at_call 77;refine Calls.quiet_of_same (ziW _ _)))
          go_wp2
          simp only [Exit.noGoto,Exit.inBlock,Exit.then]
          go_ret
          exact⟨rfl,hB.trans ⟨rfl,rfl,rfl,Nat.le_refl _,fun _ _=>rfl⟩⟩
      · have hlt:decide (((Sep.S l).size:Int) - 1<2)=false:=decide_eq_false (by show ¬ ((l.length:Int) - 1<2);omega)
        generalize hB:Sep.S l=B at *
        go_enter Tryz.func78,Tryz.ntmps78
        go_wp2_with (first|(go_at_call 92;refine(Yr _ _).mono ?_;rintro e w' ⟨rfl,hw⟩;rw [hw,hv])|((with_reducible show wpList _ _ _ (⟨_,.convert _ _ _,_,_,_,_⟩::_) _ _);refine UM rfl (v:=.string B) (w':=w) (hcv w) ?_;simp only [Act.put,List.setIfInBounds_toArray,List.set_cons_succ,List.set_cons_zero]))
        refine wp_scope_straight ?_
        go_wp2_with (((with_reducible show wpList _ _ _ (⟨_,.convert _ _ _,_,_,_,_⟩::_) _ _);refine UM rfl (v:=.string B) (w':=w) (hcv w) ?_;simp only [Act.put,List.setIfInBounds_toArray,List.set_cons_succ,List.set_cons_zero]))
        go_loopg [9] 0 (fun g v9 wx=>wx=w∧v9=.int .i64 ((B.size:Int) - 1))
        case atStart=>exact⟨rfl,rfl⟩
        case round=>
          obtain⟨rfl,rfl⟩:=hrel
          go_wp2
          simp only [Exit.noGoto,Exit.inBlock,Exit.then]
          go_ret
          exact⟨rfl,Below.refl _ _⟩
theorem zh3 (n:Int) (w:World):Calls Tryz.prog 79 #[.int .i64 n] w fun e w'=>e=.returned (.bool (decide (8<n)))∧w'=w:=by
  go_enter Tryz.func79,Tryz.ntmps79
  go_wp2
  go_ret
  exact⟨rfl,rfl⟩
def rIx (r:Nat):Int:=if r<128 then Lib.indexByte [32,9] r.toUInt8 else -1
theorem zka (r:Nat) (w:World) (h:r≤2147483647):Calls Tryz.prog 78 #[.string (Sep.S [32,9]),.int .i32 r] w fun e w'=>e=.returned (.int .i64 (rIx r))∧Below w.heap.size w w':=by
  unfold rIx
  by_cases h1:r<128
  · rw [if_pos h1]
    exact(Any.strings_IndexRune_ascii (ρ:=Tryz.lays150_ren) { Tryz.lays150 with} (Sep.S [32,9]) r w (by omega) (by omega)).mono fun e w' h=>⟨h.1,by rw [h.2];exact Below.refl _ _⟩
  · rw [if_neg h1]
    exact sixth r w (by omega) (by omega)
theorem zid (s:ByteArray) (i:Nat) (hi:i<s.size) (hn:Lib.NoAny s.data.toList [32,9] i):(0≤rIx (Utf8.decode s i).1→Lib.indexAny s.data.toList [32,9]=i)∧(¬ 0≤rIx (Utf8.decode s i).1→Lib.NoAny s.data.toList [32,9] (i+(Utf8.decode s i).2))∧1≤(Utf8.decode s i).2:=by
  have hat: ∀ j (h:j<s.size),s.data.toList[j]? =some (s.get! j):=fun j h=>by
    rw [Lib.data_getElem? s j h]
    have:=get_at s j h
    rw [Nat.add_zero] at this
    rw [this]
  by_cases hx:(s.get! i).toNat<128
  · have hx2:(s[i]'hi).toNat<128:=by
      have:=get_at s i hi
      rw [Nat.add_zero] at this
      rw [← this];exact hx
    have hd:=decode_ascii s i hi hx2
    have he:s[i]'hi=s.get! i:=by
      have:=get_at s i hi
      rw [Nat.add_zero] at this
      exact this.symm
    rw [hd,he]
    have hback:(s.get! i).toNat.toUInt8=s.get! i:=by simp
    have hcon:=Lib.contains_iff_indexByte [32,9] (s.get! i)
    unfold rIx
    rw [if_pos hx,hback]
    refine⟨fun h=> ?_,fun h=> ?_,Nat.le_refl _⟩
    · exact Lib.indexAny_hit hn (hat i hi) (by rw [hcon];exact decide_eq_true h)
    · exact hn.succ (hat i hi) (by rw [hcon];exact decide_eq_false h)
  · have hw:=za6 s i hi (by omega)
    have hx2:128≤(s[i]'hi).toNat:=by
      have:=get_at s i hi
      rw [Nat.add_zero] at this
      rw [← this];omega
    have hd:=decode_high s i hi hx2
    unfold rIx
    rw [if_neg (by omega)]
    refine⟨fun h=>absurd h (by decide),fun _=> ?_,hd.2⟩
    intro j b hj hb
    by_cases hji:j<i
    · exact hn j b hji hb
    · obtain⟨k1,k2⟩:=hw (j - i) (by omega)
      rw [show i+(j - i)=j by omega] at k1 k2
      rw [hat j k1] at hb
      cases hb
      have hn1:s.get! j≠32:=fun e=>by rw [e] at k2;exact absurd k2 (by decide)
      have hn2:s.get! j≠9:=fun e=>by rw [e] at k2;exact absurd k2 (by decide)
      simp [hn1,hn2]
theorem zhk (s:ByteArray) (w:World) (h8:s.size≤8):Calls Tryz.prog 61 #[.string s,.string (Sep.S [32,9])] w fun e w'=>e=.returned (.int .i64 (Lib.indexAny s.data.toList [32,9]))∧Below w.heap.size w w':=by
  have h8z:decide ((8:Int)<(s.size:Int))=false:=decide_eq_false (by omega)
  have hsz:(Sep.S [32,9]).size=2:=rfl
  have hemp:(Sep.S [32,9]).toList.isEmpty=false:=by rw [Lib.toList_data];rfl
  go_enter Tryz.func61,Tryz.ntmps61
  go_wp2_with (go_at_call 79;refine(zh3 _ _).mono ?_;rintro e w' ⟨rfl,hw⟩;rw [hw,h8z])
  go_loopg [9,10] s.size (fun g _ _ wx=>∃ i:Nat,s.size≤i+g∧wx.heap[w.heap.size]? =some (.stringIter s i)∧Below w.heap.size w wx∧Lib.NoAny s.data.toList [32,9] i)
  case atStart=>exact⟨0,by omega,World.iter_heap w s 0,(Below.refl _ w).alloc (Nat.le_refl _) _,Lib.NoAny.zero _ _⟩
  case round=>
    obtain⟨i,hig,hit,hbw,hno⟩:=hrel
    have HN:Aside (Lib.NoAny s.data.toList [32,9] i):=hno
    clear hno
    by_cases hi:i<s.size
    · obtain⟨g',rfl⟩: ∃ g',gk=g'+1:=⟨gk - 1,by omega⟩
      have hnx: ∀ ty,(Instr.next (.pointer (some ⟨w.heap.size,0,none⟩)) true ty).run Tryz.prog wr=_:=fun ty=>Lib.run_next_any_at wr w.heap.size s i ty hit hi
      obtain⟨k1,k2,k3⟩:=zid s i hi HN.out
      have hR:=decode_le s i
      generalize hdk:Utf8.decode s i=D at *
      obtain⟨R,K⟩:=D
      simp only at hnx k1 k2 k3 hR
      have hit2:=Lib.iterAt_heap wr w.heap.size s i (i+K) hit
      have hbw2:=Lib.below_iterAt hbw (k:=w.heap.size) (Nat.le_refl _) s (i+K)
      obtain⟨W,hWd⟩: ∃ W,wr.iterAt w.heap.size s (i+K)=W:=⟨_,rfl⟩
      rw [hWd] at hnx hit2 hbw2
      have hltW:w.heap.size<W.heap.size:=(Array.getElem?_eq_some_iff.1 hit2).1
      have cS:=zka R W hR
      clear hdk
      generalize rIx R=z at *
      by_cases hz:0≤z
      · have k1:=k1 hz
        clear k2
        go_wp2_with (go_at_call 78;refine cS.mono ?_;rintro e W' ⟨rfl,hbc⟩)
        go_ret
        exact⟨by rw [k1];rfl,hbw2.trans (hbc.mono hbw2.size)⟩
      · have k2:=k2 hz
        have K2:Aside (Lib.NoAny s.data.toList [32,9] (i+K)):=k2
        clear k1 k2
        go_wp2_with (go_at_call 78;refine cS.mono ?_;rintro e W' ⟨rfl,hbc⟩)
        go_roundg g'
        case measure=>omega
        case rel=>exact⟨i+K,by omega,(hbc.block _ hltW).trans hit2,hbw2.trans (hbc.mono hbw2.size),K2.out⟩
    · have hnx:=fun ty=>Lib.run_next_end_at (P:=Tryz.prog) wr w.heap.size s i ty hit hi
      have hn:Lib.indexAny s.data.toList [32,9]= -1:=Lib.indexAny_none fun j b hj hb=>HN.out j b (by rw [← Lib.size_eq] at hj;omega) hb
      go_wp2
      go_ret
      exact⟨by rw [hn];rfl,hbw⟩
theorem zjK (s:ByteArray) (w:World) (hs:s.size<4294967281) (hv: ∀ w,(zeroValue 107).run Tryz.prog w=.ok (.agg (Array.replicate 256 (.bool false))) w):Calls Tryz.prog 61 #[.string s,.string (Sep.S [32,9])] w fun e w'=>e=.returned (.int .i64 (Lib.indexAny s.data.toList [32,9]))∧Below w.heap.size w w':=by
  by_cases h8:s.size≤8
  · exact zhk s w h8
  · refine(Any.strings_IndexAny_long (ρ:=Tryz.lays150_ren) { Tryz.lays150 with} hv (by kernel_rfl) s (Sep.S [32,9]) w (by decide) (by omega) hs (by decide) (fun j b h=> ?_)).mono fun e w' ⟨h1,h2⟩=>⟨h1,?_⟩
    · have:b ∈ ([32,9]:List UInt8):=List.mem_of_getElem? h
      simp only [List.mem_cons,List.not_mem_nil,or_false] at this
      rcases this with rfl|rfl<;>decide
    · rw [h2]
      exact((Below.refl _ _).alloc (Nat.le_refl _) _).alloc (by simp) _
theorem zai (s:ByteArray) (w:World) (hs:s.size<4294967281) (hv: ∀ w,(zeroValue 107).run Tryz.prog w=.ok (.agg (Array.replicate 256 (.bool false))) w):Calls Tryz.prog 34 #[.string s,.string (Sep.S [32,9])] w fun e w'=>e=.returned (.bool (Lib.containsAny s.data.toList [32,9]))∧Below w.heap.size w w':=by
  have c:=zjK s w hs hv
  go_enter Tryz.func34,Tryz.ntmps34
  go_wp2_with (go_at_call 61;refine c.mono ?_;rintro e w' ⟨rfl,hw⟩)
  go_ret
  exact⟨rfl,hw⟩
end Go.Proofs.YtmibhbdfigpkmaaGreatDoor
namespace Go.Proofs.YtmibhbdfigpkmaaGreatDoor
open Go Go.Sep Go.Ab
set_option maxRecDepth 100000
theorem zhZ (w:World):(zeroValue 107).run Tryz.prog w=.ok (.agg (Array.replicate 256 (.bool false))) w:=by
  kernel_rfl
theorem zah (s p:Str) (hneed:s.length≤1000000∧p=[32,9]):Spc Tryz.prog 34 [.v (.one (.p (.str s))),.v (.one (.p (.str p)))] [] (.ret (.v (.one (.p (.bool (Lib.containsAny s p)))))) []:=by
  obtain⟨g1,g3⟩:=hneed
  subst g3
  refine Spc.of_below ⟨_,Tryz.func34,by kernel_rfl,by kernel_rfl⟩ fun S bs w vs _ hM=> ?_
  obtain⟨v,r,rfl⟩: ∃ v r,vs=v::r:=by cases vs with|nil=>exact hM.elim|cons v r=>exact⟨v,r,rfl⟩
  obtain⟨h1,hM⟩:=hM
  obtain⟨v2,r2,rfl⟩: ∃ v r2,r=v::r2:=by cases r with|nil=>exact hM.elim|cons v r=>exact⟨v,r,rfl⟩
  obtain⟨h2,hM⟩:=hM
  obtain rfl:r2=[]:=by cases r2 with|nil=>rfl|cons v r=>exact hM.elim
  cases h1 with
  | str _ hl1=>
    cases h2 with
    | str _ hl2=>
      refine⟨.bool (Lib.containsAny s [32,9]),.bool _,(zai (Sep.S s) w (by show s.length<_;omega) zhZ).mono fun e w' h=> ?_⟩
      exact⟨h.1,h.2⟩
def wG (I:Alg) (args:List D) (hp:List HO):Option CT:=match args,hp with
  |[.v (.one (.p (.str s))),.v (.one (.p (.str p)))],[]=>(fun(s p:Str)=>(some (.one ⟨I.hid (s.length≤1000000∧p=[32,9]),(.ret (.v (.one (.p (.bool (I.hid (Lib.containsAny s p))))))),[]⟩):Option CT)) s p
  |_,_=>none
theorem qK:zI Tryz.prog 34 (wG alg):=by
  intro args hp r h
  unfold wG at h
  split at h
  · cases h;exact fun hn=>zah _ _ hn
  · cases h
def wF:Know Tryz.prog:=⟨34,wG,qK⟩
def wE:Know Tryz.prog:=⟨34,fun I=>zK I (wG I),zf qK⟩
def rqHd (m t:Str):Str:=m++[32]++t++[32,72,84,84,80,47,49,46,49]
def rqwC (m t:Str) (fs:List Fld) (b:Str):Int:=
  if yU m=false then 6
  else if Lib.hasPrefix t [47]=false then 5
  else if Lib.containsAny t [32,9]=true then 5
  else if yK t=false then 5
  else if 200<(rqHd m t).length then 4
  else if 4000<b.length then 4
  else if 15<fs.length then 8
  else if 0<(valsF fs wX).length+(valsF fs qC).length then 12
  else if(oneF (valsF fs uQ)).2≠0 then 13
  else badF fs
def rqwT (m t:Str) (fs:List Fld) (b:Str):Str:=
  if rqwC m t fs b=0 then rqHd m t++[13,10]++yQ fs++tZ b.length++b else []
theorem zgT (m t:Str) (mi:Int) (fs:List Fld) (le:Int) (b:Str) (hneed:(m.length≤1000000∧t.length≤1000000)∧(fs.length≤1000∧∀ f ∈ fs,f.name.length≤1000000∧f.value.length≤1000000)∧b.length≤1000000):Spc Tryz.prog 14 [.v (.agg [(.p (.str m)),(.p (.str t)),(.p (.int .i64 mi)),(.p (.list .fld fs)),(.p (.int .i64 le))]),.v (.one (.p (.list .byte b)))] [] (.ret (.tup [(.one (.p (.list .byte ((rqwT m t fs b))))),(.one (.p (.int .i64 ((rqwC m t fs b)))))])) []:=by
  obtain⟨⟨hm1,ht1⟩,⟨hfl,hf⟩,hb⟩:=hneed
  generalize hc:rqwC m t fs b=c
  generalize ht:rqwT m t fs b=T
  have hbl:=Z4 (b.length:Int)
  have hx0:=uo fs wX
  have hx1:=uo fs qC
  refine spcG zu mixed Tryz.func14 (by kernel_rfl) { rl:=[0],keep:=some [0,1,2,4,5,6,8,9,11,12,13,79,80,81]} [xO,xN,xM,xK,UW,UU,qZ,qY,YQ,YP,TP,TN,xQ,xP,wF,wE] (by kernel_rfl) ?_
  intro I X hI hX
  refine zh (let y4:=([99,111,110,116,101,110,116,45,108,101,110,103,116,104]:Str);let y3:=([116,114,97,110,115,102,101,114,45,101,110,99,111,100,105,110,103]:Str);let y0:=I.add (I.len (α:=Str) (I.hid (α:=(List (Str))) (valsF fs y4))) (I.len (α:=Str) (I.hid (α:=(List (Str))) (valsF fs y3)));let y1:=([32,72,84,84,80,47,49,46,49]:Str);let y2:=I.len (α:=UInt8) (I.app (α:=UInt8) (I.app (α:=UInt8) (I.app (α:=UInt8) m ([32]:Str)) t) y1);let y5:=I.hid (α:=Int) (Prod.snd (oneF (valsF fs ([104,111,115,116]:Str))));.need (I.few (I.add (I.len (α:=UInt8) m) (I.len (α:=UInt8) ([32]:Str))) 1000000000) (.need (I.few (I.add (I.len (α:=UInt8) (I.app (α:=UInt8) m ([32]:Str))) (I.len (α:=UInt8) t)) 1000000000) (.need (I.few (I.add (I.len (α:=UInt8) (I.app (α:=UInt8) (I.app (α:=UInt8) m ([32]:Str)) t)) (I.len (α:=UInt8) y1)) 1000000000) (.need (I.hid (α:=(Prop)) (LE.le (List.length m) 1000000)) (.br (I.bnot (I.hid (α:=Bool) (yU m))) (.fin (.ret (.tup [(.one (.p (.list .byte ([]:Str)))),(.one (.p (.int .i64 6)))])) []) (.need (I.hid (α:=(Prop)) True) (.br (I.bnot (I.hid (α:=Bool) (Go.Lib.hasPrefix t ([47]:Str)))) (.fin (.ret (.tup [(.one (.p (.list .byte ([]:Str)))),(.one (.p (.int .i64 5)))])) []) (.need (I.hid (α:=(Prop)) (And (LE.le (List.length t) 1000000) (Eq ([32,9]:Str) ([32,9]:Str)))) (.br (I.hid (α:=Bool) (Go.Lib.containsAny t ([32,9]:Str))) (.fin (.ret (.tup [(.one (.p (.list .byte ([]:Str)))),(.one (.p (.int .i64 5)))])) []) (.need (I.hid (α:=(Prop)) (LE.le (List.length t) 1000000)) (.br (I.bnot (I.hid (α:=Bool) (yK t))) (.fin (.ret (.tup [(.one (.p (.list .byte ([]:Str)))),(.one (.p (.int .i64 5)))])) []) (.br (I.ilt 200 y2) (.fin (.ret (.tup [(.one (.p (.list .byte ([]:Str)))),(.one (.p (.int .i64 4)))])) []) (.br (I.ilt 4000 (I.len (α:=UInt8) b)) (.fin (.ret (.tup [(.one (.p (.list .byte ([]:Str)))),(.one (.p (.int .i64 4)))])) []) (.br (I.ilt 15 (I.len (α:=Fld) fs)) (.fin (.ret (.tup [(.one (.p (.list .byte ([]:Str)))),(.one (.p (.int .i64 8)))])) []) (.need (I.hid (α:=(Prop)) (And (LE.le (List.length fs) 1000) (And (LE.le (List.length y4) 1000000) (∀ (f:Fld),f ∈ fs→List.length f.name≤1000000∧List.length f.value≤1000000)))) (.need (I.hid (α:=(Prop)) (And (LE.le (List.length fs) 1000) (And (LE.le (List.length y3) 1000000) (∀ (f:Fld),f ∈ fs→List.length f.name≤1000000∧List.length f.value≤1000000)))) (.need (I.inr Go.IntKind.i64 y0) (.br (I.ilt 0 y0) (.fin (.ret (.tup [(.one (.p (.list .byte ([]:Str)))),(.one (.p (.int .i64 12)))])) []) (.need (I.hid (α:=(Prop)) (And (LE.le (List.length fs) 1000) (And (LE.le (List.length ([104,111,115,116]:Str)) 1000000) (∀ (f:Fld),f ∈ fs→List.length f.name≤1000000∧List.length f.value≤1000000)))) (.br (I.bnot (I.ieq y5 0)) (.fin (.ret (.tup [(.one (.p (.list .byte ([]:Str)))),(.one (.p (.int .i64 13)))])) []) (.need (I.few (I.add y2 (I.len (α:=UInt8) ([13,10]:Str))) 1000000000) (.code 0 [1,1,1,1,1,0,1,0] ⟨[(81,(.v (.one (.p (.int .i64 0))))),(80,(.v (.one (.p (.int .i64 (I.len (α:=Fld) fs)))))),(79,(.v (.one (.p (.list .fld fs))))),(9,(.v (.one (.row 3)))),(8,(.v (.one (.p (.int .i64 y5))))),(6,(.v (.one (.p (.str (I.app (α:=UInt8) (I.app (α:=UInt8) (I.app (α:=UInt8) m ([32]:Str)) t) y1)))))),(5,(.v (.one (.p (.int .i64 0))))),(4,(.v (.one .nilS))),(2,(.v (.one (.ptr 0 0)))),(0,(.v (.agg [(.p (.str m)),(.p (.str t)),(.p (.int .i64 mi)),(.p (.list .fld fs)),(.p (.int .i64 le))]))),(1,(.v (.one (.p (.list .byte b)))))],[(.obj 25 [(.p (.str m)),(.p (.str t)),(.p (.int .i64 mi)),(.p (.list .fld fs)),(.p (.int .i64 le))]),(.row .str 9 (I.hid (α:=(List (Str))) (valsF fs y4))),(.row .str 9 (I.hid (α:=(List (Str))) (valsF fs y3))),(.row .byte 5 (I.app (α:=UInt8) (I.app (α:=UInt8) (I.app (α:=UInt8) (I.app (α:=UInt8) m ([32]:Str)) t) y1) ([13,10]:Str)))],108,none⟩)))))))))))))))))))))) (by kernel_rfl) ?_
  simp only [zC]
  rw [show([99,111,110,116,101,110,116,45,108,101,110,103,116,104]:Str)=wX from rfl,show([116,114,97,110,115,102,101,114,45,101,110,99,111,100,105,110,103]:Str)=qC from rfl,show([104,111,115,116]:Str)=uQ from rfl]
  have hk1:wX.length≤1000000:=by decide
  have hk2:qC.length≤1000000:=by decide
  have hk3:uQ.length≤1000000:=by decide
  (repeat' (first|refine And.intro ?_ ?_|intro _))
  all_goals try(subst hI;(simp only [nrmA,nrmB,nrlB,reduceCtorEq] at *);first|done|trivial|omega|exact⟨ht1,rfl⟩|exact⟨hfl,by assumption,hf⟩|(simp only [List.length_append,List.length_cons,List.length_nil];omega)|(unfold rqwT at ht;unfold rqwC rqHd at ht hc;((repeat(first|rewrite [if_pos (by first|omega|assumption|(simp only [*,or_self,or_true,true_or,or_false,false_or,not_true_eq_false,not_false_eq_true,Bool.false_eq_true,Bool.true_eq_false,and_self,and_true,true_and];done)|(simp only [*];omega)|(simp [*];done)|(simp [*];omega))] at hc|rewrite [if_neg (by first|omega|assumption|(simp only [*,or_self,or_true,true_or,or_false,false_or,not_true_eq_false,not_false_eq_true,Bool.false_eq_true,Bool.true_eq_false,and_self,and_true,true_and];done)|(simp only [*];omega)|(simp [*];done)|(simp [*];omega))] at hc)));subst hc;((repeat(first|rewrite [if_pos (by first|omega|assumption|(simp only [*,or_self,or_true,true_or,or_false,false_or,not_true_eq_false,not_false_eq_true,Bool.false_eq_true,Bool.true_eq_false,and_self,and_true,true_and];done)|(simp only [*];omega)|(simp [*];done)|(simp [*];omega))] at ht|rewrite [if_neg (by first|omega|assumption|(simp only [*,or_self,or_true,true_or,or_false,false_or,not_true_eq_false,not_false_eq_true,Bool.false_eq_true,Bool.true_eq_false,and_self,and_true,true_and];done)|(simp only [*];omega)|(simp [*];done)|(simp [*];omega))] at ht)));subst ht;exact⟨rfl,rfl⟩))
  have hok:yU m=true∧Lib.hasPrefix t [47]=true∧Lib.containsAny t [32,9]=false∧yK t=true∧(rqHd m t).length≤200∧b.length≤4000∧fs.length≤15∧(valsF fs wX).length+(valsF fs qC).length=0∧(oneF (valsF fs uQ)).2=0:=by
    subst hI
    unfold rqHd
    simp only [nrmA,nrmB,nrlB,reduceCtorEq] at *
    exact⟨by simpa using ‹yU m=_›,by simpa using ‹Lib.hasPrefix t [47]=_›,by simpa using ‹Lib.containsAny t [32,9]=_›,by simpa using ‹yK t=_›,by omega,by omega,by omega,by omega,by assumption⟩
  obtain⟨k1,k2,k3,k4,k5,k6,k7,k8,k9⟩:=hok
  have hc2:c=badF fs:=by
    rw [← hc,rqwC,if_neg (by rw [k1];simp),if_neg (by rw [k2];simp),if_neg (by rw [k3];simp),if_neg (by rw [k4];simp),if_neg (by omega),if_neg (by omega),if_neg (by omega),if_neg (by omega),if_neg (fun h=>h k9)]
  have ht2:badF fs=0→T=rqHd m t++[13,10]++yQ fs++tZ b.length++b:=fun h=>by
    rw [← ht,rqwT,hc,hc2,if_pos h]
  have ht3:badF fs≠0→T=[]:=fun h=>by rw [← ht,rqwT,hc,hc2,if_neg h]
  refine yw hI zu mixed [xO,xN,xM,xK,UW,UU,qZ,qY,YQ,YP,TP,TN,xQ,xP,wF,wE] hX [1,2,5,9,79,80,81] (fun(g:Nat × Str)=>match g with|(i,o)=>i≤fs.length∧o=rqHd m t++[13,10]++yQ (fs.take i)∧badF fs=badF (fs.drop i)) (fun(g:Nat × Str)=>match g with|(i,o)=>⟨[(1,.v (.one (.p (.list .byte b)))),(2,.v (.one (.ptr 0 0))),(5,.v (.one (.p (.int .i64 0)))),(9,.v (.one (.row 1))),(79,.v (.one (.p (.list .fld fs)))),(80,.v (.one (.p (.int .i64 ((I.len (α:=Fld) fs)))))),(81,.v (.one (.p (.int .i64 i))))],[.pack [.obj 25 [(.p (.str m)),(.p (.str t)),(.p (.int .i64 mi)),(.p (.list .fld fs)),(.p (.int .i64 le))]],.row .byte 5 o],108,none⟩) (fun(g:Nat × Str)=>match g with|(i,o)=>fs.length - i) (0,I.app (I.app (I.app (I.app m [32]) t) [32,72,84,84,80,47,49,46,49]) [13,10]) (by kernel_rfl) (by kernel_rfl) ?_ ?_
  · refine⟨Nat.zero_le _,?_,rfl⟩
    subst hI
    simp only [rD,Ri,rqHd,List.take_zero,yQ,List.append_nil]
  rintro⟨i,o⟩ ⟨h1,h2,h3⟩ A hA
  simp only at hA h1 h2 h3
  refine zh (let y0:=I.get (α:=Fld) fs (Fld.mk ([]:Str) ([]:Str)) (Nat.cast i);let y1:=([67,111,110,116,101,110,116,45,76,101,110,103,116,104,58,32]:Str);let y2:=I.hid (α:=Str) (decS (I.len (α:=UInt8) b));let y3:=I.hid (α:=Str) (Prod.fst (textF (Fld.mk (Fld.name y0) (Fld.value y0))));let y4:=I.hid (α:=Int) (Prod.snd (textF (Fld.mk (Fld.name y0) (Fld.value y0))));let y5:=I.inb (Nat.cast i) (I.len (α:=Fld) fs);.br (I.ilt (Nat.cast i) (I.len (α:=Fld) fs)) (.need y5 (.need y5 (.need (I.hid (α:=(Prop)) (And (LE.le (List.length (Fld.name y0)) 1000000) (LE.le (List.length (Fld.value y0)) 1000000))) (.br (I.bnot (I.ieq y4 0)) (.fin (.ret (.tup [(.one (.p (.list .byte ([]:Str)))),(.one (.p (.int .i64 y4)))])) []) (.need (I.few (I.add (I.len (α:=UInt8) y3) (I.len (α:=UInt8) ([13,10]:Str))) 1000000000) (.need (I.few (I.add (I.len (α:=UInt8) o) (I.len (α:=UInt8) (I.app (α:=UInt8) y3 ([13,10]:Str)))) 140737488355328) (.need (I.inr Go.IntKind.i64 (I.add (Nat.cast i) 1)) (.need (A ⟨[(1,(.v (.one (.p (.list .byte b))))),(2,(.v (.one (.ptr 0 0)))),(5,(.v (.one (.p (.int .i64 0))))),(9,(.v (.one (.row 1)))),(79,(.v (.one (.p (.list .fld fs))))),(80,(.v (.one (.p (.int .i64 (I.len (α:=Fld) fs)))))),(81,(.v (.one (.p (.int .i64 (I.add (Nat.cast i) 1))))))],[(.pack [(.obj 25 [(.p (.str m)),(.p (.str t)),(.p (.int .i64 mi)),(.p (.list .fld fs)),(.p (.int .i64 le))])]),(.row .byte 5 (I.app (α:=UInt8) o (I.app (α:=UInt8) y3 ([13,10]:Str))))],108,none⟩) .qed)))))))) (.need (I.hid (α:=(Prop)) (And (LE.le (0:Int) (I.len (α:=UInt8) b)) (LT.lt (I.len (α:=UInt8) b) (1000000000:Int)))) (.need (I.few (I.add (I.len (α:=UInt8) y1) (I.len (α:=UInt8) y2)) 1000000000) (.need (I.few (I.add (I.len (α:=UInt8) (I.app (α:=UInt8) y1 y2)) (I.len (α:=UInt8) ([13,10,13,10]:Str))) 1000000000) (.need (I.few (I.add (I.len (α:=UInt8) o) (I.len (α:=UInt8) (I.app (α:=UInt8) (I.app (α:=UInt8) y1 y2) ([13,10,13,10]:Str)))) 140737488355328) (.need (I.few (I.add (I.len (α:=UInt8) (I.app (α:=UInt8) o (I.app (α:=UInt8) (I.app (α:=UInt8) y1 y2) ([13,10,13,10]:Str)))) (I.len (α:=UInt8) b)) 140737488355328) (.fin (.ret (.tup [(.one (.p (.list .byte (I.app (α:=UInt8) (I.app (α:=UInt8) o (I.app (α:=UInt8) (I.app (α:=UInt8) y1 y2) ([13,10,13,10]:Str))) b)))),(.one (.p (.int .i64 0)))])) []))))))) (by kernel_rfl) ?_
  simp only [zC]
  subst hI
  simp only [nrmA,nrmB,nrlB,reduceCtorEq]
  have hx:i<fs.length→(fs.getD i ⟨[],[]⟩) ∈ fs:=fun h=>by rw [show fs.getD i ⟨[],[]⟩=fs[i] by simp [h]];exact List.getElem_mem h
  have hd:i<fs.length→_:=fun h=>zas (fs:=fs) (i:=i) h
  have hk:i<fs.length→_:=fun h=>Uz (fs:=fs) (i:=i) h
  have hol:(yQ (fs.take i)).length≤202 * 16:=by
    have:=ZW (fs.take i)
    rw [List.length_take] at this
    omega
  have hol2:o.length≤4000:=by rw [h2,List.length_append,List.length_append,List.length_cons,List.length_cons,List.length_nil];omega
  have hend: ¬ i<fs.length→badF fs=0∧yQ (fs.take i)=yQ fs:=fun h=>by
    rw [h3,List.drop_of_length_le (by omega),List.take_of_length_le (by omega)];exact⟨rfl,rfl⟩
  have hfi:=fun h=>hf _ (hx h)
  have htl:=fun f=>X5 f
  generalize fs.getD i ⟨[],[]⟩=x at *
  have e0:(⟨x.name,x.value⟩:Fld)=x:=rfl
  rw [e0]
  have htl:=htl x
  refine⟨fun c1=>⟨⟨by omega,by omega⟩,⟨by omega,by omega⟩,hfi (by omega),fun c2=> ?_,fun c2=>⟨?_,?_,by omega,?_⟩⟩,fun c1=> ?_⟩
  · have hd:=hd (by omega)
    rw [if_neg c2] at hd
    exact⟨(ht3 (by rw [h3,hd];exact c2)).symm,by rw [hc2,h3,hd]⟩
  · simp only [List.length_cons,List.length_nil];omega
  · simp only [List.length_append,List.length_cons,List.length_nil];omega
  · have hd:=hd (by omega)
    rw [if_pos c2] at hd
    exact hA (i+1,o++((textF x).1++[13,10])) ⟨by simp only;omega,by simp only;rw [hk (by omega),h2];simp only [List.append_assoc],by simp only;rw [h3,hd]⟩ (by simp only;omega)
  · obtain⟨e1,e2⟩:=hend (by omega)
    simp only [List.length_append,List.length_cons,List.length_nil]
    refine⟨by omega,by omega,by omega,by omega,by omega,?_,by rw [hc2,e1]⟩
    rw [ht2 e1,h2,e2]
    unfold tZ
    simp only [List.append_assoc]
def rJ (I:Alg) (args:List D) (hp:List HO):Option CT:=match args,hp with
  |[.v (.agg [(.p (.str m)),(.p (.str t)),(.p (.int .i64 mi)),(.p (.list .fld fs)),(.p (.int .i64 le))]),.v (.one (.p (.list .byte b)))],[]=>(fun(m t:Str) (mi:Int) (fs:List Fld) (le:Int) (b:Str)=>(some (.one ⟨I.hid ((m.length≤1000000∧t.length≤1000000)∧(fs.length≤1000∧∀ f ∈ fs,f.name.length≤1000000∧f.value.length≤1000000)∧b.length≤1000000),(.ret (.tup [(.one (.p (.list .byte (I.hid ((rqwT m t fs b)))))),(.one (.p (.int .i64 (I.hid ((rqwC m t fs b))))))])),[]⟩):Option CT)) m t mi fs le b
  |_,_=>none
theorem VU:zI Tryz.prog 14 (rJ alg):=by
  intro args hp r h
  unfold rJ at h
  split at h
  · cases h;exact fun hn=>zgT _ _ _ _ _ _ hn
  · cases h
def Yy:Know Tryz.prog:=⟨14,rJ,VU⟩
def Yx:Know Tryz.prog:=⟨14,fun I=>zK I (rJ I),zf VU⟩
end Go.Proofs.YtmibhbdfigpkmaaGreatDoor
namespace Go.Proofs.YtmibhbdfigpkmaaGreatDoor
open Go Go.Sep Go.Ab
set_option maxRecDepth 100000
def K2 (e:Evt):Prop:=e.kind=2
theorem zkc (t:Str):Lib.hasPrefix t [47]=true↔t.length≠0∧((t.getD 0 0).toNat:Int)=47:=by
  unfold Lib.hasPrefix
  cases t with
  |nil=>simp
  | cons c r=>
    simp only [List.isPrefixOf,Bool.and_true,beq_iff_eq,List.length_cons,List.getD_cons_zero]
    exact⟨fun h=>⟨by omega,by rw [← h];rfl⟩,fun h=>(UInt8.toNat_inj.1 (by rw [show(47:UInt8).toNat=47 from rfl];omega))⟩
theorem any2 (t:Str):Lib.containsAny t [32,9]=true↔0≤qJ [32] t 0∨0≤qJ [9] t 0:=by
  have h1: ∀ c:UInt8,0≤qJ [c] t 0↔t.contains c=true:=fun c=>by
    rw [qp,Lib.contains_iff_indexByte,decide_eq_true_iff]
    have:=xE t c
    split<;>omega
  rw [h1,h1]
  unfold Lib.containsAny
  rw [decide_eq_true_iff]
  induction t with
  |nil=>simp [Lib.indexAny]
  | cons c r ih=>
    have hge:=Lib.indexAny_ge [32,9] r
    have ih:=ih (fun c=>by
      rw [qp,Lib.contains_iff_indexByte,decide_eq_true_iff]
      have:=xE r c
      split<;>omega)
    unfold Lib.indexAny
    by_cases hc:([32,9]:Str).contains c=true
    · rw [if_pos hc]
      simp only [List.contains_cons,List.contains_nil,Bool.or_false,Bool.or_eq_true,beq_iff_eq] at hc ⊢
      exact⟨fun _=>by rcases hc with h|h<;>simp [h],fun _=>by decide⟩
    · rw [if_neg hc]
      have h2: ¬ (32:UInt8)=c∧¬ (9:UInt8)=c:=by
        simp only [List.contains_cons,List.contains_nil,Bool.or_false,Bool.or_eq_true,beq_iff_eq,not_or] at hc
        exact⟨fun h=>hc.1 h.symm,fun h=>hc.2 h.symm⟩
      have h3:(c::r).contains 32=r.contains 32:=by simp [h2.1]
      have h4:(c::r).contains 9=r.contains 9:=by simp [h2.2]
      rw [h3,h4]
      refine Iff.trans ?_ ih
      by_cases hm:Lib.indexAny r [32,9]= -1
      · rw [if_pos (by rw [hm];rfl),hm]
      · rw [if_neg (by simpa using hm)]
        omega
end Go.Proofs.YtmibhbdfigpkmaaGreatDoor
namespace Go.Proofs.YtmibhbdfigpkmaaGreatDoor
open Go Go.Sep Go.Ab
def Vu:Str:=[67,111,110,116,101,110,116,45,76,101,110,103,116,104]
def VK (n:Int):Fld:=⟨Vu,decS n⟩
theorem zgm: ∀ {fs:List Fld},badF fs=0→∀ f ∈ fs,(textF f).2=0
  | f ::l,h,g,hg=>by
    unfold badF at h
    split at h
    · rename_i hf
      rcases List.mem_cons.1 hg with rfl|hg
      · exact hf
      · exact zgm h g hg
    · rename_i hf;exact absurd h hf
theorem zbx {c:UInt8} (h:tokB (c.toNat:Int)=true):Zg (c.toNat:Int)=true:=by
  have: ∀ n:Fin 256,tokB (n.1:Int)=true→Zg (n.1:Int)=true:=by decide+kernel
  exact this ⟨c.toNat,c.toNat_lt⟩ h
theorem vg (a b:Str):yK (a++b)=(yK a&&yK b):=by unfold yK;rw [List.all_append]
theorem zd6 {f:Fld} (h:(textF f).2=0):yK (textF f).1=true∧(textF f).1≠[]:=by
  obtain⟨h1,h2,h3⟩:=zby h
  rw [h3,vg,vg]
  have:=Yt h1.tok
  have hn:yK f.name=true:=List.all_eq_true.2 fun x hx=>zbx (Xp this.2 hx)
  rw [hn,h1.seen]
  exact⟨by decide+kernel,by simp⟩
def dgB (c:UInt8):Bool:=tN (c.toNat:Int)
theorem zhU: ∀ d:Fin 10,dgB (dgN d.1)=true:=by decide+kernel
theorem UN: ∀ f n,(txtN 10 f n).all dgB=true
  |0,_=>rfl
  | f +1,n=>by
    by_cases h:n<10
    · rw [yg h]
      simp only [List.all_cons,List.all_nil,Bool.and_true]
      exact zhU ⟨n,h⟩
    · rw [yY h,List.all_append,UN f]
      simp only [List.all_cons,List.all_nil,Bool.and_true,Bool.true_and]
      exact zhU ⟨n % 10,Nat.mod_lt _ (by decide)⟩
theorem zf1 {c:UInt8} (h:dgB c=true):Zg (c.toNat:Int)=true∧bl c=false:=by
  have: ∀ n:Fin 256,tN (n.1:Int)=true→Zg (n.1:Int)=true∧bl (UInt8.ofNat n.1)=false:=by decide+kernel
  have:=this ⟨c.toNat,c.toNat_lt⟩ h
  simpa using this
theorem zad {s:Str} (h:s.all dgB=true):s.dropWhile bl=s:=by
  cases s with
  |nil=>rfl
  | cons c l=>
    rw [List.all_cons,Bool.and_eq_true] at h
    rw [List.dropWhile_cons,(zf1 h.1).2]
    simp
theorem zh4 {s:Str} (h:s.all dgB=true):Lib.trimS s [32,9]=s:=by
  rw [UQ]
  unfold trL trR
  have h2:s.reverse.all dgB=true:=by rw [List.all_reverse];exact h
  rw [zad h2,List.reverse_reverse,zad h]
theorem zej {s:Str} (h:s.all dgB=true):yK s=true:=List.all_eq_true.2 fun x hx=>(zf1 (List.all_eq_true.1 h x hx)).1
theorem zhv {n:Int}:yK (decS n)=true:=zej (s:=decS n) (UN _ n.toNat)
theorem zdO (n:Int):zW (Vu++[58,32]++decS n)=(VK n,0):=
  Q9 (f:=VK n) ⟨(by decide+kernel:yU Vu=true),(by decide:Vu.length≤40),zej (UN _ _),zh4 (UN _ _)⟩
theorem zf8 (n:Int):yK (Vu++[58,32]++decS n)=true∧(Vu++[58,32]++decS n).length≤200:=by
  have:=Z4 n
  refine⟨?_,by simp [Vu];omega⟩
  rw [vg,vg,zhv]
  decide+kernel
end Go.Proofs.YtmibhbdfigpkmaaGreatDoor
namespace Go.Proofs.YtmibhbdfigpkmaaGreatDoor
open Go Go.Sep Go.Ab
set_option maxRecDepth 100000
theorem Qg {f g:Nat} {r:Str} (hf:r.length<f) (hg:r.length<g):reqG f none r=reqG g none r:=by
  have h1:=(qN f r rq0 hf rfl zfp).1 rfl
  have h2:=(qN g r rq0 hg rfl zfp).1 rfl
  have e1:(reqG f none r).1=(reqG g none r).1:=by
    have:=h1.1.symm.trans h2.1
    simpa [zD,rq0] using this
  exact Prod.ext e1 (h1.2.1.symm.trans h2.2.1)
theorem X7 (b:Str): ∀ a:Str,(∀ x ∈ a,x≠32)→zL (a++32::b)=a::zL b
  |[],_=>by simp [zL]
  | c::a,h=>by
    have ih:=X7 b a fun x hx=>h x (List.mem_cons_of_mem _ hx)
    rw [List.cons_append,zL,if_neg (h c (List.mem_cons_self ..)),ih]
theorem Ru: ∀ a:Str,(∀ x ∈ a,x≠32)→zL a=[a]
  |[],_=>rfl
  | c::a,h=>by
    have ih:=Ru a fun x hx=>h x (List.mem_cons_of_mem _ hx)
    rw [zL,if_neg (h c (List.mem_cons_self ..)),ih]
theorem zd5 {s:Str} (h:tokA s=true): ∀ x ∈ s,x≠32:=fun x hx e=>by
  have:=Xp h hx
  rw [e] at this
  exact absurd this (by decide+kernel)
structure zja (m t:Str) (fs:List Fld) (b:Str):Prop where
  tok:yU m=true
  pfx:Lib.hasPrefix t [47]=true
  any:Lib.containsAny t [32,9]=false
  seen:yK t=true
  hl:(rqHd m t).length≤200
  bl:b.length≤4000
  fl:fs.length≤15
  cl:valsF fs wX=[]
  te:valsF fs qC=[]
  ho:(oneF (valsF fs uQ)).2=0
  ok: ∀ f ∈ fs,(textF f).2=0
theorem zey {m t:Str} {fs:List Fld} {b:Str} (h:rqwC m t fs b=0):zja m t fs b∧rqwT m t fs b=rqHd m t++[13,10]++yQ fs++tZ b.length++b:=by
  have ht:rqwT m t fs b=rqHd m t++[13,10]++yQ fs++tZ b.length++b:=by rw [rqwT,if_pos h]
  unfold rqwC at h
  split at h
  · cases h
  split at h
  · cases h
  split at h
  · cases h
  split at h
  · cases h
  split at h
  · cases h
  split at h
  · cases h
  split at h
  · cases h
  split at h
  · cases h
  split at h
  · exact absurd h (by decide)
  rename_i h1 h2 h3 h4 h5 h6 h7 h8 h9
  exact⟨⟨by simpa using h1,by simpa using h2,by simpa using h3,by simpa using h4,by omega,by omega,by omega,List.eq_nil_of_length_eq_zero (by omega),List.eq_nil_of_length_eq_zero (by omega),by simpa using h9,zgm h⟩,ht⟩
theorem zjy {t:Str} (h:Lib.containsAny t [32,9]=false):(∀ x ∈ t,x≠32)∧t.contains 9=false:=by
  have h1: ¬ (0≤qJ [32] t 0∨0≤qJ [9] t 0):=fun k=>by rw [(any2 t).2 k] at h;cases h
  have h2: ∀ c:UInt8,0≤qJ [c] t 0↔t.contains c=true:=fun c=>by
    rw [qp,Lib.contains_iff_indexByte,decide_eq_true_iff]
    have:=xE t c
    split<;>omega
  rw [h2,h2,not_or] at h1
  refine⟨fun x hx e=>h1.1 ?_,by simpa using h1.2⟩
  rw [← e]
  exact List.contains_iff_mem.2 hx
theorem zfH {m t:Str} {fs:List Fld} {b:Str} (h:zja m t fs b):firM (rqHd m t)=(⟨m,t,1,[],0⟩,0)∧yK (rqHd m t)=true∧rqHd m t≠[]:=by
  obtain⟨hm0,hm1⟩:=Yt h.tok
  obtain⟨ht0,ht1⟩:=zjy h.any
  have hp:=(zkc t).1 h.pfx
  have hs:zL (rqHd m t)=[m,t,vF]:=by
    unfold rqHd
    rw [show m++[32]++t++[32,72,84,84,80,47,49,46,49]=m++32::(t++32::vF) by simp [vF]]
    rw [X7 _ m (zd5 hm1),X7 _ t ht0,Ru vF (by decide)]
  have hh:t.head?=some 47:=by
    cases t with
    |nil=>exact absurd rfl hp.1
    | cons c r=>
      have:=hp.2
      simp only [List.getD_cons_zero] at this
      rw [List.head?_cons,show c=47 from UInt8.toNat_inj.1 (by rw [show(47:UInt8).toNat=47 from rfl];omega)]
  refine⟨?_,?_,by simp [rqHd]⟩
  · unfold firM
    rw [hs]
    simp only
    rw [if_neg (by simp [h.tok]),if_neg (by rw [hh,ht1];simp)];simp
  · unfold rqHd
    rw [vg,vg,vg,h.seen]
    have h1:yK m=true:=List.all_eq_true.2 fun x hx=>zbx (Xp hm1 hx)
    rw [h1]
    decide+kernel
theorem ZO {s:Str} (t:Str) (h:yK s=true) (hl:s.length≤200):zB (s++[13,10]++t)=(s,((s.length+2:Nat):Int),true,0)∧(s++[13,10]++t).drop (s.length+2)=t:=by
  rw [show s++[13,10]++t=s++13::10::t by simp]
  refine⟨by rw [zdB t h hl];simp,?_⟩
  rw [show s.length+2=s.length+2 from rfl,← List.drop_drop,List.drop_left]
  rfl
theorem Qh: ∀ (fs:List Fld) (f:Nat) (h:Hd) (r:Str),(∀ x ∈ fs,(textF x).2=0)→h.fields.length+fs.length≤16→reqG (f+fs.length) (some h) (yQ fs++r)=reqG f (some { h with fields:=h.fields++fs}) r
  |[],f,h,r,_,_=>by simp [yQ]
  | x::fs,f,h,r,hx,hl=>by
    have h0:=hx x (List.mem_cons_self ..)
    obtain⟨e1,e2⟩:=zc6 h0
    obtain⟨e3,e4⟩:=zd6 h0
    obtain⟨s1,s2⟩:=ZO (yQ fs++r) e3 e2
    rw [List.length_cons] at hl
    rw [show f+(x::fs).length=(f+fs.length)+1 by rw [List.length_cons];omega]
    rw [show yQ (x::fs)++r=(textF x).1++[13,10]++(yQ fs++r) by simp [yQ]]
    rw [Wy,s1]
    simp only [ne_eq,not_true_eq_false,if_false,Bool.true_eq_false,Int.toNat_natCast,s2,e1]
    rw [if_neg e4,if_neg (by omega)]
    rw [Qh fs f _ r (fun y hy=>hx y (List.mem_cons_of_mem _ hy)) (by simp;omega)]
    simp
theorem X3 (a b:List Fld) (n:Str):valsF (a++b) n=valsF a n++valsF b n:=by simp [valsF]
theorem ziX: ∀ d:Fin 10,hexK ((dgN d.1).toNat:Int)=d.1:=by decide+kernel
theorem zb8 (base:Int): ∀ (s t:Str) (n:Int),(numG base n s).2=true→numG base n (s++t)=numG base (numG base n s).1 t
  |[],t,n,_=>rfl
  | c ::l,t,n,h=>by
    rw [numG] at h
    rw [List.cons_append,numG,numG]
    by_cases hc:hexK c.toNat<0∨base≤hexK c.toNat
    · rw [if_pos hc] at h;cases h
    · rw [if_neg hc] at h
      rw [if_neg hc,if_neg hc]
      exact zb8 base l t _ h
theorem Qo: ∀ (f n:Nat),n<10 ^ f→0<f→numG 10 0 (txtN 10 f n)=((n:Int),true)∧(txtN 10 f n).length≤f∧txtN 10 f n≠[]
  |0,n,_,h=>by cases h
  | f + 1,n,hn,_=>by
    have one: ∀ d:Nat,d<10→∀ m:Int,numG 10 m [dgN d]=(m * 10+d,true):=fun d hd m=>by
      have:=ziX ⟨d,hd⟩
      simp only at this
      rw [numG,this,if_neg (by omega),numG]
    by_cases h:n<10
    · rw [yg h,one n h]
      simp
    · rw [yY h]
      have hf:0<f:=by
        rcases Nat.eq_zero_or_pos f with h0|h0
        · subst h0;simp at hn;omega
        · exact h0
      have hd:n / 10<10 ^ f:=Nat.div_lt_of_lt_mul (by rw [Nat.pow_succ,Nat.mul_comm] at hn;exact hn)
      obtain⟨h1,h2,h3⟩:=Qo f (n / 10) hd hf
      refine⟨?_,by rw [List.length_append];simp;omega,by simp⟩
      rw [zb8 _ _ _ _ (by rw [h1]),h1,one _ (Nat.mod_lt _ (by omega))]
      have:=Nat.div_add_mod n 10
      congr 1
      show((n / 10:Nat):Int) * 10+((n % 10:Nat):Int)=n
      omega
theorem ziY {n:Nat} (h:n≤4000):numA (decS (n:Int)) 10 9=((n:Int),true):=by
  have h1:numG 10 0 (txtN 10 9 n)=((n:Int),true)∧(txtN 10 9 n).length≤9∧txtN 10 9 n≠[]:=Qo 9 n (by simp only [Nat.reducePow];omega) (by decide)
  obtain⟨e1,e2,e3⟩:=h1
  show numA (txtN 10 9 n) 10 9=_
  rw [numA,if_neg (fun h=>by rcases h with h|h;exact e3 h;omega),e1]
theorem zjE {fs:List Fld} {n:Nat} (h1:valsF fs wX=[]) (h2:valsF fs qC=[]) (h3:(oneF (valsF fs uQ)).2=0) (hn:n≤4000):ZQ 1 (fs++[VK (n:Int)])=((n:Int),0):=by
  have e1:valsF (fs++[VK (n:Int)]) wX=[decS (n:Int)]:=by rw [X3,h1];rfl
  have e2:valsF (fs++[VK (n:Int)]) qC=[]:=by rw [X3,h2];rfl
  have e3:valsF (fs++[VK (n:Int)]) uQ=valsF fs uQ:=by rw [X3];exact List.append_nil _
  unfold ZQ za1 lenM
  rw [e1,e2,e3,h3]
  simp only [ne_eq,not_true_eq_false,if_false,sizM,List.getD_cons_zero,ziY hn]
  rw [if_neg (by decide)]
  simp
  omega
theorem zb0 {m t:Str} {fs:List Fld} {b:Str} (h:zja m t fs b) (r:Str) (f:Nat) (hf:(rqHd m t++[13,10]++yQ fs++tZ b.length++b++r).length<f):
    reqG f none (rqHd m t++[13,10]++yQ fs++tZ b.length++b++r)=preG ([evH ⟨m,t,1,fs++[VK (b.length:Int)],(b.length:Int)⟩]++bodE b++[evE]) (reqG (r.length+1) none r):=by
  obtain⟨g1,g2,g3⟩:=zfH h
  have hr:((yQ fs++tZ b.length++b++r).length<(r.length+1)+2+fs.length+(yQ fs++tZ b.length++b++r).length):=by omega
  rw [Qg hf (g:=(r.length+2+fs.length+(rqHd m t++[13,10]++yQ fs++tZ b.length++b++r).length)+3) (by omega)]
  generalize(rqHd m t++[13,10]++yQ fs++tZ b.length++b++r).length=N
  clear hr hf
  rw [show rqHd m t++[13,10]++yQ fs++tZ b.length++b++r=rqHd m t++[13,10]++(yQ fs++((Vu++[58,32]++decS (b.length:Int))++[13,10]++([]++[13,10]++(b++r)))) by simp [tZ,Vu]]
  obtain⟨s1,s2⟩:=ZO (yQ fs++((Vu++[58,32]++decS (b.length:Int))++[13,10]++([]++[13,10]++(b++r)))) g2 h.hl
  rw [Qe,s1]
  simp only [ne_eq,not_true_eq_false,if_false,Bool.true_eq_false,Int.toNat_natCast,s2,g1]
  rw [if_neg g3]
  rw [show r.length+2+fs.length+N+2=(r.length+2+N+2)+fs.length by omega,Qh fs _ _ _ h.ok (by have:=h.fl;simp;omega)]
  obtain⟨c1,c2⟩:=zf8 (b.length:Int)
  obtain⟨s3,s4⟩:=ZO ([]++[13,10]++(b++r)) c1 c2
  rw [show r.length+2+N+2=(r.length+2+N+1)+1 by omega,Wy,s3]
  simp only [ne_eq,not_true_eq_false,if_false,Bool.true_eq_false,Int.toNat_natCast,s4,zdO]
  simp only [List.nil_append]
  rw [if_neg (by simp [Vu]),if_neg (by have:=h.fl;omega)]
  obtain⟨s5,s6⟩:=ZO (s:=[]) (b++r) (by decide) (by decide)
  rw [List.nil_append] at s5 s6
  rw [show r.length+2+N+1=(r.length+2+N)+1 by omega,Wy,s5]
  simp only [ne_eq,not_true_eq_false,if_false,Bool.true_eq_false,Int.toNat_natCast,s6,if_true]
  unfold reqH
  simp only [zjE h.cl h.te h.ho h.bl]
  rw [if_neg (by simp),if_pos (by omega),if_pos (by rw [List.length_append];omega)]
  rw [Int.toNat_natCast,List.take_left,List.drop_left,Qg (f:=r.length+2+N) (g:=r.length+1) (by omega) (by omega)]
def wH (m t:Str) (fs:List Fld) (b:Str):List Evt:=[evH ⟨m,t,1,fs++[VK (b.length:Int)],(b.length:Int)⟩]++bodE b++[evE]
theorem zgI {m t m2 t2:Str} {fs fs2:List Fld} {a b:Str} (h:rqwC m t fs a=0) (k:rqwC m2 t2 fs2 b=0):
    zD (zF rq0 (rqwT m t fs a++rqwT m2 t2 fs2 b)).out=wH m t fs a++wH m2 t2 fs2 b∧xH (zF rq0 (rqwT m t fs a++rqwT m2 t2 fs2 b))=false∧decide ((zF rq0 (rqwT m t fs a++rqwT m2 t2 fs2 b)).pos=4)=false:=by
  obtain⟨h1,h2⟩:=zey h
  obtain⟨k1,k2⟩:=zey k
  obtain⟨e1,e2,e3⟩:=zeX (rqwT m t fs a++rqwT m2 t2 fs2 b)
  have hg:reqG ((rqwT m t fs a++rqwT m2 t2 fs2 b).length+1) none (rqwT m t fs a++rqwT m2 t2 fs2 b)=(wH m t fs a++wH m2 t2 fs2 b,false):=by
    rw [h2,zb0 h1 _ _ (Nat.lt_succ_self _),k2]
    have:=zb0 k1 [] (rqHd m2 t2++[13,10]++yQ fs2++tZ b.length++b++[]).length.succ (Nat.lt_succ_self _)
    rw [List.append_nil] at this
    rw [this]
    have h0:reqG ([]:Str).length.succ none []=([],false):=by rw [Qe];simp [zB,xJ]
    rw [show([]:Str).length+1=([]:Str).length.succ from rfl,h0]
    simp [preG,wH]
  rw [hg] at e1 e2 e3
  refine⟨e1,e2,e3.trans ?_⟩
  unfold wH
  rw [← List.append_assoc,uD]
  rfl
theorem zbL {m t:Str} {fs:List Fld} {b:Str} (h:rqwC m t fs b=0):(rqwT m t fs b).length≤7600:=by
  obtain⟨h1,h2⟩:=zey h
  rw [h2]
  have e1:=ZW fs
  have e2:=h1.fl
  have e3:=h1.hl
  have e4:=h1.bl
  have e5:=Z4 (b.length:Int)
  unfold tZ
  simp only [List.length_append,List.length_cons,List.length_nil]
  omega
end Go.Proofs.YtmibhbdfigpkmaaGreatDoor
namespace Go.Proofs.YtmibhbdfigpkmaaGreatDoor
open Go Go.Sep Go.Ab
set_option maxRecDepth 100000
theorem zg4:Spc Tryz.prog 6 [] [] (.ret (.v (.one (.p (.bool true))))) []:=by
  refine spcG zu mixed Tryz.func6 (by kernel_rfl) { cfgQ with fz:=[14,9],keep:=some [0,1,2,3,4]} [Xz,Xy,ZB,ZA,Zr,Zq,Yy,Yx] (by kernel_rfl) ?_
  intro I X hI hX
  refine zh (.need (I.hid (α:=(Prop)) True) (.need (I.inr Go.IntKind.u8 71) (.need (I.inr Go.IntKind.u8 69) (.need (I.inr Go.IntKind.u8 84) (.need (I.inr Go.IntKind.u8 32) (.need (I.inr Go.IntKind.u8 47) (.need (I.inr Go.IntKind.u8 120) (.need (I.inr Go.IntKind.u8 32) (.need (I.inr Go.IntKind.u8 72) (.need (I.inr Go.IntKind.u8 84) (.need (I.inr Go.IntKind.u8 84) (.need (I.inr Go.IntKind.u8 80) (.need (I.inr Go.IntKind.u8 47) (.need (I.inr Go.IntKind.u8 49) (.need (I.inr Go.IntKind.u8 46) (.need (I.inr Go.IntKind.u8 49) (.need (I.inr Go.IntKind.u8 13) (.need (I.inr Go.IntKind.u8 10) (.need (I.inr Go.IntKind.u8 72) (.need (I.inr Go.IntKind.u8 111) (.need (I.inr Go.IntKind.u8 115) (.need (I.inr Go.IntKind.u8 116) (.need (I.inr Go.IntKind.u8 58) (.need (I.inr Go.IntKind.u8 32) (.need (I.inr Go.IntKind.u8 97) (.need (I.inr Go.IntKind.u8 13) (.need (I.inr Go.IntKind.u8 10) (.need (I.inr Go.IntKind.u8 13) (.need (I.inr Go.IntKind.u8 10) (.need (I.inb 0 (I.len (α:=UInt8) ([(I.i2b 71),(I.i2b 69),(I.i2b 84),(I.i2b 32),(I.i2b 47),(I.i2b 120),(I.i2b 32),(I.i2b 72),(I.i2b 84),(I.i2b 84),(I.i2b 80),(I.i2b 47),(I.i2b 49),(I.i2b 46),(I.i2b 49),(I.i2b 13),(I.i2b 10),(I.i2b 72),(I.i2b 111),(I.i2b 115),(I.i2b 116),(I.i2b 58),(I.i2b 32),(I.i2b 97),(I.i2b 13),(I.i2b 10),(I.i2b 13),(I.i2b 10)]:List UInt8))) (.need (I.hid (α:=(Prop)) (Go.Proofs.YtmibhbdfigpkmaaGreatDoor.rqN0 Go.Proofs.YtmibhbdfigpkmaaGreatDoor.rq0 ([(I.i2b 71),(I.i2b 69),(I.i2b 84),(I.i2b 32),(I.i2b 47),(I.i2b 120),(I.i2b 32),(I.i2b 72),(I.i2b 84),(I.i2b 84),(I.i2b 80),(I.i2b 47),(I.i2b 49),(I.i2b 46),(I.i2b 49),(I.i2b 13),(I.i2b 10),(I.i2b 72),(I.i2b 111),(I.i2b 115),(I.i2b 116),(I.i2b 58),(I.i2b 32),(I.i2b 97),(I.i2b 13),(I.i2b 10),(I.i2b 13),(I.i2b 10)]:List UInt8))) (.need (I.inr Go.IntKind.u8 121) (.need (I.inb 0 (I.len (α:=UInt8) ([(I.i2b 121)]:List UInt8))) (.need (I.hid (α:=(Prop)) (And (And (LE.le (List.length (Array.toList (List.toArray ([71,69,84]:List UInt8)))) 1000000) (LE.le (List.length (Array.toList (List.toArray ([47,120]:List UInt8)))) 1000000)) (And (And (LE.le (List.length ([(Go.Ab.Fld.mk (Array.toList (List.toArray ([72,111,115,116]:List UInt8))) (Array.toList (List.toArray ([97]:List UInt8))))]:List Go.Ab.Fld)) 1000) (∀ (f:Fld),
    f ∈ [Fld.mk (ByteArray.mk #[72,111,115,116]).data.toList (ByteArray.mk #[97]).data.toList]→
      List.length f.name≤1000000∧List.length f.value≤1000000)) (LE.le (List.length ([(I.i2b 121)]:List UInt8)) 1000000)))) (.br (I.ieq (I.len (α:=Go.Ab.Evt) (I.hid (α:=(List Go.Ab.Evt)) (Go.Proofs.YtmibhbdfigpkmaaGreatDoor.zD (Go.Ab.Rq.out (Go.Proofs.YtmibhbdfigpkmaaGreatDoor.zF Go.Proofs.YtmibhbdfigpkmaaGreatDoor.rq0 ([(I.i2b 71),(I.i2b 69),(I.i2b 84),(I.i2b 32),(I.i2b 47),(I.i2b 120),(I.i2b 32),(I.i2b 72),(I.i2b 84),(I.i2b 84),(I.i2b 80),(I.i2b 47),(I.i2b 49),(I.i2b 46),(I.i2b 49),(I.i2b 13),(I.i2b 10),(I.i2b 72),(I.i2b 111),(I.i2b 115),(I.i2b 116),(I.i2b 58),(I.i2b 32),(I.i2b 97),(I.i2b 13),(I.i2b 10),(I.i2b 13),(I.i2b 10)]:List UInt8)))))) 2) (.need (I.inb 0 (I.len (α:=Go.Ab.Evt) (I.hid (α:=(List Go.Ab.Evt)) (Go.Proofs.YtmibhbdfigpkmaaGreatDoor.zD (Go.Ab.Rq.out (Go.Proofs.YtmibhbdfigpkmaaGreatDoor.zF Go.Proofs.YtmibhbdfigpkmaaGreatDoor.rq0 ([(I.i2b 71),(I.i2b 69),(I.i2b 84),(I.i2b 32),(I.i2b 47),(I.i2b 120),(I.i2b 32),(I.i2b 72),(I.i2b 84),(I.i2b 84),(I.i2b 80),(I.i2b 47),(I.i2b 49),(I.i2b 46),(I.i2b 49),(I.i2b 13),(I.i2b 10),(I.i2b 72),(I.i2b 111),(I.i2b 115),(I.i2b 116),(I.i2b 58),(I.i2b 32),(I.i2b 97),(I.i2b 13),(I.i2b 10),(I.i2b 13),(I.i2b 10)]:List UInt8))))))) (.need (I.inb 0 (I.len (α:=Go.Ab.Evt) (I.hid (α:=(List Go.Ab.Evt)) (Go.Proofs.YtmibhbdfigpkmaaGreatDoor.zD (Go.Ab.Rq.out (Go.Proofs.YtmibhbdfigpkmaaGreatDoor.zF Go.Proofs.YtmibhbdfigpkmaaGreatDoor.rq0 ([(I.i2b 71),(I.i2b 69),(I.i2b 84),(I.i2b 32),(I.i2b 47),(I.i2b 120),(I.i2b 32),(I.i2b 72),(I.i2b 84),(I.i2b 84),(I.i2b 80),(I.i2b 47),(I.i2b 49),(I.i2b 46),(I.i2b 49),(I.i2b 13),(I.i2b 10),(I.i2b 72),(I.i2b 111),(I.i2b 115),(I.i2b 116),(I.i2b 58),(I.i2b 32),(I.i2b 97),(I.i2b 13),(I.i2b 10),(I.i2b 13),(I.i2b 10)]:List UInt8))))))) (.br (I.ieq (Go.Ab.Evt.kind (I.get (α:=Go.Ab.Evt) (I.hid (α:=(List Go.Ab.Evt)) (Go.Proofs.YtmibhbdfigpkmaaGreatDoor.zD (Go.Ab.Rq.out (Go.Proofs.YtmibhbdfigpkmaaGreatDoor.zF Go.Proofs.YtmibhbdfigpkmaaGreatDoor.rq0 ([(I.i2b 71),(I.i2b 69),(I.i2b 84),(I.i2b 32),(I.i2b 47),(I.i2b 120),(I.i2b 32),(I.i2b 72),(I.i2b 84),(I.i2b 84),(I.i2b 80),(I.i2b 47),(I.i2b 49),(I.i2b 46),(I.i2b 49),(I.i2b 13),(I.i2b 10),(I.i2b 72),(I.i2b 111),(I.i2b 115),(I.i2b 116),(I.i2b 58),(I.i2b 32),(I.i2b 97),(I.i2b 13),(I.i2b 10),(I.i2b 13),(I.i2b 10)]:List UInt8))))) (Go.Ab.Evt.mk (0:Int) (Go.Ab.Hd.mk ([]:List UInt8) ([]:List UInt8) (0:Int) ([]:List Go.Ab.Fld) (0:Int)) ([]:List UInt8) (Go.Ab.Prt.mk ([]:List UInt8) ([]:List UInt8) ([]:List UInt8) ([]:List UInt8)) (0:Int)) 0)) 1) (.need (I.inb 0 (I.len (α:=Go.Ab.Evt) (I.hid (α:=(List Go.Ab.Evt)) (Go.Proofs.YtmibhbdfigpkmaaGreatDoor.zD (Go.Ab.Rq.out (Go.Proofs.YtmibhbdfigpkmaaGreatDoor.zF Go.Proofs.YtmibhbdfigpkmaaGreatDoor.rq0 ([(I.i2b 71),(I.i2b 69),(I.i2b 84),(I.i2b 32),(I.i2b 47),(I.i2b 120),(I.i2b 32),(I.i2b 72),(I.i2b 84),(I.i2b 84),(I.i2b 80),(I.i2b 47),(I.i2b 49),(I.i2b 46),(I.i2b 49),(I.i2b 13),(I.i2b 10),(I.i2b 72),(I.i2b 111),(I.i2b 115),(I.i2b 116),(I.i2b 58),(I.i2b 32),(I.i2b 97),(I.i2b 13),(I.i2b 10),(I.i2b 13),(I.i2b 10)]:List UInt8))))))) (.need (I.inb 0 (I.len (α:=Go.Ab.Evt) (I.hid (α:=(List Go.Ab.Evt)) (Go.Proofs.YtmibhbdfigpkmaaGreatDoor.zD (Go.Ab.Rq.out (Go.Proofs.YtmibhbdfigpkmaaGreatDoor.zF Go.Proofs.YtmibhbdfigpkmaaGreatDoor.rq0 ([(I.i2b 71),(I.i2b 69),(I.i2b 84),(I.i2b 32),(I.i2b 47),(I.i2b 120),(I.i2b 32),(I.i2b 72),(I.i2b 84),(I.i2b 84),(I.i2b 80),(I.i2b 47),(I.i2b 49),(I.i2b 46),(I.i2b 49),(I.i2b 13),(I.i2b 10),(I.i2b 72),(I.i2b 111),(I.i2b 115),(I.i2b 116),(I.i2b 58),(I.i2b 32),(I.i2b 97),(I.i2b 13),(I.i2b 10),(I.i2b 13),(I.i2b 10)]:List UInt8))))))) (.br (I.seq (Go.Ab.Hd.target (Go.Ab.Evt.head (I.get (α:=Go.Ab.Evt) (I.hid (α:=(List Go.Ab.Evt)) (Go.Proofs.YtmibhbdfigpkmaaGreatDoor.zD (Go.Ab.Rq.out (Go.Proofs.YtmibhbdfigpkmaaGreatDoor.zF Go.Proofs.YtmibhbdfigpkmaaGreatDoor.rq0 ([(I.i2b 71),(I.i2b 69),(I.i2b 84),(I.i2b 32),(I.i2b 47),(I.i2b 120),(I.i2b 32),(I.i2b 72),(I.i2b 84),(I.i2b 84),(I.i2b 80),(I.i2b 47),(I.i2b 49),(I.i2b 46),(I.i2b 49),(I.i2b 13),(I.i2b 10),(I.i2b 72),(I.i2b 111),(I.i2b 115),(I.i2b 116),(I.i2b 58),(I.i2b 32),(I.i2b 97),(I.i2b 13),(I.i2b 10),(I.i2b 13),(I.i2b 10)]:List UInt8))))) (Go.Ab.Evt.mk (0:Int) (Go.Ab.Hd.mk ([]:List UInt8) ([]:List UInt8) (0:Int) ([]:List Go.Ab.Fld) (0:Int)) ([]:List UInt8) (Go.Ab.Prt.mk ([]:List UInt8) ([]:List UInt8) ([]:List UInt8) ([]:List UInt8)) (0:Int)) 0))) (Array.toList (List.toArray ([47,120]:List UInt8)))) (.need (I.inb 1 (I.len (α:=Go.Ab.Evt) (I.hid (α:=(List Go.Ab.Evt)) (Go.Proofs.YtmibhbdfigpkmaaGreatDoor.zD (Go.Ab.Rq.out (Go.Proofs.YtmibhbdfigpkmaaGreatDoor.zF Go.Proofs.YtmibhbdfigpkmaaGreatDoor.rq0 ([(I.i2b 71),(I.i2b 69),(I.i2b 84),(I.i2b 32),(I.i2b 47),(I.i2b 120),(I.i2b 32),(I.i2b 72),(I.i2b 84),(I.i2b 84),(I.i2b 80),(I.i2b 47),(I.i2b 49),(I.i2b 46),(I.i2b 49),(I.i2b 13),(I.i2b 10),(I.i2b 72),(I.i2b 111),(I.i2b 115),(I.i2b 116),(I.i2b 58),(I.i2b 32),(I.i2b 97),(I.i2b 13),(I.i2b 10),(I.i2b 13),(I.i2b 10)]:List UInt8))))))) (.need (I.inb 1 (I.len (α:=Go.Ab.Evt) (I.hid (α:=(List Go.Ab.Evt)) (Go.Proofs.YtmibhbdfigpkmaaGreatDoor.zD (Go.Ab.Rq.out (Go.Proofs.YtmibhbdfigpkmaaGreatDoor.zF Go.Proofs.YtmibhbdfigpkmaaGreatDoor.rq0 ([(I.i2b 71),(I.i2b 69),(I.i2b 84),(I.i2b 32),(I.i2b 47),(I.i2b 120),(I.i2b 32),(I.i2b 72),(I.i2b 84),(I.i2b 84),(I.i2b 80),(I.i2b 47),(I.i2b 49),(I.i2b 46),(I.i2b 49),(I.i2b 13),(I.i2b 10),(I.i2b 72),(I.i2b 111),(I.i2b 115),(I.i2b 116),(I.i2b 58),(I.i2b 32),(I.i2b 97),(I.i2b 13),(I.i2b 10),(I.i2b 13),(I.i2b 10)]:List UInt8))))))) (.br (I.ieq (Go.Ab.Evt.kind (I.get (α:=Go.Ab.Evt) (I.hid (α:=(List Go.Ab.Evt)) (Go.Proofs.YtmibhbdfigpkmaaGreatDoor.zD (Go.Ab.Rq.out (Go.Proofs.YtmibhbdfigpkmaaGreatDoor.zF Go.Proofs.YtmibhbdfigpkmaaGreatDoor.rq0 ([(I.i2b 71),(I.i2b 69),(I.i2b 84),(I.i2b 32),(I.i2b 47),(I.i2b 120),(I.i2b 32),(I.i2b 72),(I.i2b 84),(I.i2b 84),(I.i2b 80),(I.i2b 47),(I.i2b 49),(I.i2b 46),(I.i2b 49),(I.i2b 13),(I.i2b 10),(I.i2b 72),(I.i2b 111),(I.i2b 115),(I.i2b 116),(I.i2b 58),(I.i2b 32),(I.i2b 97),(I.i2b 13),(I.i2b 10),(I.i2b 13),(I.i2b 10)]:List UInt8))))) (Go.Ab.Evt.mk (0:Int) (Go.Ab.Hd.mk ([]:List UInt8) ([]:List UInt8) (0:Int) ([]:List Go.Ab.Fld) (0:Int)) ([]:List UInt8) (Go.Ab.Prt.mk ([]:List UInt8) ([]:List UInt8) ([]:List UInt8) ([]:List UInt8)) (0:Int)) 1)) 3) (.need (I.hid (α:=(Prop)) True) (.br (I.bnot (I.hid (α:=Bool) (Go.Proofs.YtmibhbdfigpkmaaGreatDoor.xH (I.hid (α:=Go.Ab.Rq) (Go.Proofs.YtmibhbdfigpkmaaGreatDoor.zF Go.Proofs.YtmibhbdfigpkmaaGreatDoor.rq0 ([(I.i2b 71),(I.i2b 69),(I.i2b 84),(I.i2b 32),(I.i2b 47),(I.i2b 120),(I.i2b 32),(I.i2b 72),(I.i2b 84),(I.i2b 84),(I.i2b 80),(I.i2b 47),(I.i2b 49),(I.i2b 46),(I.i2b 49),(I.i2b 13),(I.i2b 10),(I.i2b 72),(I.i2b 111),(I.i2b 115),(I.i2b 116),(I.i2b 58),(I.i2b 32),(I.i2b 97),(I.i2b 13),(I.i2b 10),(I.i2b 13),(I.i2b 10)]:List UInt8)))))) (.br (I.ieq (I.hid (α:=Int) (Go.Proofs.YtmibhbdfigpkmaaGreatDoor.rqwC (Array.toList (List.toArray ([71,69,84]:List UInt8))) (Array.toList (List.toArray ([47,120]:List UInt8))) ([(Go.Ab.Fld.mk (Array.toList (List.toArray ([72,111,115,116]:List UInt8))) (Array.toList (List.toArray ([97]:List UInt8))))]:List Go.Ab.Fld) ([(I.i2b 121)]:List UInt8))) 0) (.fin (.ret (.v (.one (.p (.bool (I.seq (I.hid (α:=(List UInt8)) (Go.Proofs.YtmibhbdfigpkmaaGreatDoor.rqwT (Array.toList (List.toArray ([71,69,84]:List UInt8))) (Array.toList (List.toArray ([47,120]:List UInt8))) ([(Go.Ab.Fld.mk (Array.toList (List.toArray ([72,111,115,116]:List UInt8))) (Array.toList (List.toArray ([97]:List UInt8))))]:List Go.Ab.Fld) ([(I.i2b 121)]:List UInt8))) (Array.toList (List.toArray ([71,69,84,32,47,120,32,72,84,84,80,47,49,46,49,13,10,72,111,115,116,58,32,97,13,10,67,111,110,116,101,110,116,45,76,101,110,103,116,104,58,32,49,13,10,13,10,121]:List UInt8))))))))) []) (.fin (.ret (.v (.one (.p (.bool Bool.false))))) [])) (.fin (.ret (.v (.one (.p (.bool Bool.false))))) []))) (.fin (.ret (.v (.one (.p (.bool Bool.false))))) [])))) (.fin (.ret (.v (.one (.p (.bool Bool.false))))) [])))) (.fin (.ret (.v (.one (.p (.bool Bool.false))))) [])))) (.fin (.ret (.v (.one (.p (.bool Bool.false))))) [])))))))))))))))))))))))))))))))))))) (by kernel_rfl) ?_
  simp only [zC]
  subst hI
  simp only [nrmA,nrmB,nrlB,reduceCtorEq,HO.abs.injEq,Gh.rq.injEq,Rq.mk.injEq]
  have hI0: ∀ b:Str,b.length≤1000000→rqN0 rq0 b:=fun b h=>⟨0,zjm,by omega⟩
  (repeat' (first|refine And.intro ?_ ?_|intro _))<;>first|omega|exact True.intro|exact False.elim ‹False›|skip
  all_goals first
    |exact hI0 _ (by decide)
    |(clear hI0;decide+revert+kernel)
    |decide+kernel
    |(rename_i h;exact h (by decide+kernel))
    |(rename_i h;exact absurd h (by decide+kernel))
    |(rename_i h;trace "{h}";trace_state)
def rY (I:Alg) (args:List D) (hp:List HO):Option CT:=match args,hp with
  |[],[]=>(fun(_:Unit)=>(some (.one ⟨I.hid (True),(.ret (.v (.one (.p (.bool true))))),[]⟩):Option CT)) ()
  |_,_=>none
theorem V6:zI Tryz.prog 6 (rY alg):=by
  intro args hp r h
  unfold rY at h
  split at h
  · cases h;exact fun hn=>zg4
  · cases h
def YD:Know Tryz.prog:=⟨6,rY,V6⟩
def YC:Know Tryz.prog:=⟨6,fun I=>zK I (rY I),zf V6⟩
end Go.Proofs.YtmibhbdfigpkmaaGreatDoor
namespace Go.Proofs.YtmibhbdfigpkmaaGreatDoor
open Go Go.Sep Go.Ab
set_option maxRecDepth 100000
def EvO (l:List Evt):Prop:=∀ e ∈ l,FsOk e.head.fields
theorem Za {a b:List Evt} (h:EvO a) (k:EvO b):EvO (a++b):=fun e m=>(List.mem_append.1 m).elim (h e) (k e)
theorem TW:FsOk []:=⟨by decide,fun f h=>by cases h⟩
theorem Vq {e:Evt} (h:FsOk e.head.fields):EvO [e]:=fun x m=>by rw [List.mem_singleton.1 m];exact h
theorem zfW {o:List Evt} {e:Evt} (h:EvO (o++[e])):EvO (xU o e):=by
  rcases List.eq_nil_or_concat o with rfl|⟨z,x,rfl⟩
  · exact h
  · rw [List.concat_eq_append] at h ⊢
    rw [yC]
    split
    · exact Za (fun y m=>h y (by simp [m])) (Vq TW)
    · exact h
theorem Sr: ∀ (l o:List Evt),EvO (o++l)→EvO (l.foldl xU o)
  |[],o,h=>by rw [List.append_nil] at h;exact h
  | e::l,o,h=>by
    rw [List.foldl_cons]
    refine Sr l _ ?_
    rw [show o++e::l=(o++[e])++l by simp] at h
    exact Za (zfW fun y m=>h y (List.mem_append_left _ m)) (fun y m=>h y (List.mem_append_right _ m))
theorem zg2 {q:Rq} (h:EvO q.out) (k:FsOk q.h.fields):EvO (zV q).1.out:=by
  unfold zV yP
  repeat' split
  all_goals first
    |exact h
    |exact Za (Za h (Vq k)) (Vq TW)
    |exact Za h (Vq k)
theorem zgU {q:Rq} (h:EvO q.out) (k:FsOk q.h.fields) (s:Str):EvO (zG q s).1.out:=by
  have hd:=zg2 h k
  unfold zG
  repeat' split
  all_goals first|exact hd|exact h
theorem zkb {q:Rq} (h:EvO q.out) (k:FsOk q.h.fields) (c:UInt8):EvO (rqF q c).out:=by
  have hl:=zgU (q:= { q with ln:=(lnF q.ln c).1}) h k (lnF q.ln c).2.1
  have h1: ∀ (o:List Evt) (e:Evt),EvO o→e.head=hd0→EvO (o++[e]):=fun o e a b=>Za a (Vq (by rw [b];exact TW))
  have hd:EvO (if(chF (ckOf q) c).2.1≠[] then q.out++[evB (chF (ckOf q) c).2.1] else q.out):=by
    split
    · exact h1 _ _ h rfl
    · exact h
  unfold rqF
  split
  · split
    · exact h1 _ _ (h1 _ _ h rfl) rfl
    · exact h1 _ _ h rfl
  split
  · split
    · exact h1 _ _ h rfl
    split
    · exact h1 _ _ hd rfl
    · exact hd
  split
  · split
    · exact h1 _ _ h rfl
    split
    · split
      · exact h1 _ _ hl rfl
      · exact hl
    · exact h
  · exact h
theorem zes: ∀ (b:Str) (q:Rq) (i:Nat),RqI q i→i+b.length≤1000000→EvO q.out→EvO (yE q b).out
  |[],q,i,_,_,h=>h
  | c::b,q,i,hi,hb,h=>by
    rw [List.length_cons] at hb
    exact zes b _ (i+1) (zdj hi c) (by omega) (zkb h ⟨by have:=hi.fl;omega,fun f m=>by have:=hi.ff f m;omega⟩ c)
end Go.Proofs.YtmibhbdfigpkmaaGreatDoor
namespace Go.Proofs.YtmibhbdfigpkmaaGreatDoor
open Go Go.Sep Go.Ab
set_option maxRecDepth 100000
theorem zde (x y:Str):Spc Tryz.prog 16 [.v (.one (.p (.list .byte x))),.v (.one (.p (.list .byte y)))] [] (.ret (.v (.one (.p (.bool (x == y)))))) []:=by
  refine spcG zu mixed Tryz.func16 (by kernel_rfl) { keep:=some [0,1,4]} [] (by kernel_rfl) ?_
  intro I X hI hX
  refine zh (.fin (.ret (.v (.one (.p (.bool (I.seq x y)))))) []) (by kernel_rfl) ?_
  simp only [zC]
  subst hI
  exact⟨rfl,trivial⟩
def vJ (I:Alg) (args:List D) (hp:List HO):Option CT:=match args,hp with
  |[.v (.one (.p (.list .byte x))),.v (.one (.p (.list .byte y)))],[]=>(fun(x y:Str)=>(some (.one ⟨I.hid (True),(.ret (.v (.one (.p (.bool (I.hid (x == y))))))),[]⟩):Option CT)) x y
  |_,_=>none
theorem Y0:zI Tryz.prog 16 (vJ alg):=by
  intro args hp r h
  unfold vJ at h
  split at h
  · cases h;exact fun hn=>zde _ _
  · cases h
def sG:Know Tryz.prog:=⟨16,vJ,Y0⟩
def sF:Know Tryz.prog:=⟨16,fun I=>zK I (vJ I),zf Y0⟩
end Go.Proofs.YtmibhbdfigpkmaaGreatDoor
namespace Go.Proofs.YtmibhbdfigpkmaaGreatDoor
open Go Go.Sep Go.Ab
set_option maxRecDepth 100000
def hdB (a b:Str) (c:Int) (f:List Fld) (d:Int) (a2 b2:Str) (c2:Int) (f2:List Fld) (d2:Int):Bool:=decide ((⟨a,b,c,f,d⟩:Hd)=⟨a2,b2,c2,f2,d2⟩)
def ptB (a b c d a2 b2 c2 d2:Str):Bool:=decide ((⟨a,b,c,d⟩:Prt)=⟨a2,b2,c2,d2⟩)
theorem ziN {x y:Hd}:hdB x.method x.target x.minor x.fields x.length y.method y.target y.minor y.fields y.length=true↔x=y:=by unfold hdB;exact decide_eq_true_iff
theorem zir {x y:Prt}:ptB x.name x.file x.type x.bytes y.name y.file y.type y.bytes=true↔x=y:=by unfold ptB;exact decide_eq_true_iff
theorem zib (a b:Str) (c:Int) (f:List Fld) (d:Int) (a2 b2:Str) (c2:Int) (f2:List Fld) (d2:Int) (hneed:f.length≤140737488355328∧f2.length≤140737488355328):Spc Tryz.prog 29 [.v (.agg [(.p (.str a)),(.p (.str b)),(.p (.int .i64 c)),(.p (.list .fld f)),(.p (.int .i64 d))]),.v (.agg [(.p (.str a2)),(.p (.str b2)),(.p (.int .i64 c2)),(.p (.list .fld f2)),(.p (.int .i64 d2))])] [] (.ret (.v (.one (.p (.bool ((hdB a b c f d a2 b2 c2 f2 d2))))))) []:=by
  refine spcG zu mixed Tryz.func29 (by kernel_rfl) { keep:=some [0,1,2,3,4]} [zgR,zgQ] (by kernel_rfl) ?_
  intro I X hI hX
  refine zh (.br (I.seq a a2) (.br (I.seq b b2) (.br (I.ieq c c2) (.br (I.ieq d d2) (.need (I.hid (α:=(Prop)) (And (LE.le (List.length f) 140737488355328) (LE.le (List.length f2) 140737488355328))) (.fin (.ret (.v (.one (.p (.bool (I.hid (α:=Bool) (Decidable.decide (Eq f f2)))))))) [])) (.fin (.ret (.v (.one (.p (.bool Bool.false))))) [])) (.fin (.ret (.v (.one (.p (.bool Bool.false))))) [])) (.fin (.ret (.v (.one (.p (.bool Bool.false))))) [])) (.fin (.ret (.v (.one (.p (.bool Bool.false))))) [])) (by kernel_rfl) ?_
  simp only [zC]
  subst hI
  simp only [nrmA,nrmB,nrlB,reduceCtorEq]
  unfold hdB
  rw [show decide ((⟨a,b,c,f,d⟩:Hd)=⟨a2,b2,c2,f2,d2⟩)=(decide (a=a2)&&decide (b=b2)&&decide (c=c2)&&decide (d=d2)&&decide (f=f2)) by rw [Bool.eq_iff_iff];simp only [Hd.mk.injEq,decide_eq_true_iff,Bool.and_eq_true];constructor<;>(intro h;simp [h])]
  (repeat' (first|refine And.intro ?_ ?_|intro _))<;>first|omega|exact True.intro|exact False.elim ‹False›|skip
  all_goals first|exact hneed|(simp_all;done)|trace_state
def Zi (I:Alg) (args:List D) (hp:List HO):Option CT:=match args,hp with
  |[.v (.agg [(.p (.str a)),(.p (.str b)),(.p (.int .i64 c)),(.p (.list .fld f)),(.p (.int .i64 d))]),.v (.agg [(.p (.str a2)),(.p (.str b2)),(.p (.int .i64 c2)),(.p (.list .fld f2)),(.p (.int .i64 d2))])],[]=>(fun(a b:Str) (c:Int) (f:List Fld) (d:Int) (a2 b2:Str) (c2:Int) (f2:List Fld) (d2:Int)=>(some (.one ⟨I.hid (f.length≤140737488355328∧f2.length≤140737488355328),(.ret (.v (.one (.p (.bool (I.hid ((hdB a b c f d a2 b2 c2 f2 d2)))))))),[]⟩):Option CT)) a b c f d a2 b2 c2 f2 d2
  |_,_=>none
theorem RI:zI Tryz.prog 29 (Zi alg):=by
  intro args hp r h
  unfold Zi at h
  split at h
  · cases h;exact fun hn=>zib _ _ _ _ _ _ _ _ _ _ hn
  · cases h
def RH:Know Tryz.prog:=⟨29,Zi,RI⟩
def RG:Know Tryz.prog:=⟨29,fun I=>zK I (Zi I),zf RI⟩
theorem zia (a b c d a2 b2 c2 d2:Str):Spc Tryz.prog 30 [.v (.agg [(.p (.str a)),(.p (.str b)),(.p (.str c)),(.p (.list .byte d))]),.v (.agg [(.p (.str a2)),(.p (.str b2)),(.p (.str c2)),(.p (.list .byte d2))])] [] (.ret (.v (.one (.p (.bool ((ptB a b c d a2 b2 c2 d2))))))) []:=by
  refine spcG zu mixed Tryz.func30 (by kernel_rfl) { keep:=some [0,1,2,3,4]} [sG,sF] (by kernel_rfl) ?_
  intro I X hI hX
  refine zh (.br (I.seq a a2) (.br (I.seq b b2) (.br (I.seq c c2) (.need (I.hid (α:=(Prop)) True) (.fin (.ret (.v (.one (.p (.bool (I.hid (α:=Bool) (BEq.beq d d2))))))) [])) (.fin (.ret (.v (.one (.p (.bool Bool.false))))) [])) (.fin (.ret (.v (.one (.p (.bool Bool.false))))) [])) (.fin (.ret (.v (.one (.p (.bool Bool.false))))) [])) (by kernel_rfl) ?_
  simp only [zC]
  subst hI
  simp only [nrmA,nrmB,nrlB,reduceCtorEq]
  unfold ptB
  rw [show decide ((⟨a,b,c,d⟩:Prt)=⟨a2,b2,c2,d2⟩)=(decide (a=a2)&&decide (b=b2)&&decide (c=c2)&&(d == d2)) by rw [Bool.eq_iff_iff];simp only [Prt.mk.injEq,decide_eq_true_iff,Bool.and_eq_true,beq_iff_eq];constructor<;>(intro h;simp [h])]
  (repeat' (first|refine And.intro ?_ ?_|intro _))<;>first|omega|exact True.intro|exact False.elim ‹False›|skip
  all_goals first|(simp_all;done)|trace_state
def Zh (I:Alg) (args:List D) (hp:List HO):Option CT:=match args,hp with
  |[.v (.agg [(.p (.str a)),(.p (.str b)),(.p (.str c)),(.p (.list .byte d))]),.v (.agg [(.p (.str a2)),(.p (.str b2)),(.p (.str c2)),(.p (.list .byte d2))])],[]=>(fun(a b c d a2 b2 c2 d2:Str)=>(some (.one ⟨I.hid (True),(.ret (.v (.one (.p (.bool (I.hid ((ptB a b c d a2 b2 c2 d2)))))))),[]⟩):Option CT)) a b c d a2 b2 c2 d2
  |_,_=>none
theorem RF:zI Tryz.prog 30 (Zh alg):=by
  intro args hp r h
  unfold Zh at h
  split at h
  · cases h;exact fun hn=>zia _ _ _ _ _ _ _ _
  · cases h
def RD:Know Tryz.prog:=⟨30,Zh,RF⟩
def Rz:Know Tryz.prog:=⟨30,fun I=>zK I (Zh I),zf RF⟩
theorem zhp {α:Type} [DecidableEq α] {l m:List α} {i:Nat} (d:α) (h1:i<l.length) (h2:i<m.length):(decide (l.drop i=m.drop i))=(decide (l.getD i d=m.getD i d)&&decide (l.drop (i+1)=m.drop (i+1))):=by
  have e1:l.getD i d=l[i]:=by simp [h1]
  have e2:m.getD i d=m[i]:=by simp [h2]
  rw [e1,e2,Bool.eq_iff_iff,Bool.and_eq_true,decide_eq_true_iff,decide_eq_true_iff,decide_eq_true_iff,List.drop_eq_getElem_cons h1,List.drop_eq_getElem_cons h2,List.cons.injEq]
theorem getD_in {α:Type} {l:List α} {i:Nat} (d:α) (h:i<l.length):l.getD i d ∈ l:=by
  rw [show l.getD i d=l[i] by simp [h]];exact List.getElem_mem h
theorem ziV {x y:Evt} (h1:x.kind=y.kind) (h2:x.code=y.code) (h3:x.bytes=y.bytes) (h4:x.head=y.head) (h5:x.part=y.part):x=y:=by cases x;cases y;simp_all
def fewE (l:List Evt):Prop:=l.length≤100000000∧∀ e ∈ l,e.head.fields.length≤140737488355328
theorem zic (l m:List Evt) (hneed:fewE l∧fewE m):Spc Tryz.prog 11 [.v (.one (.p (.list .evt l))),.v (.one (.p (.list .evt m)))] [] (.ret (.v (.one (.p (.bool ((decide (l=m)))))))) []:=by
  obtain⟨⟨hl,hl2⟩,hm,hm2⟩:=hneed
  generalize hr:decide (l=m)=r
  refine spcG zu mixed Tryz.func11 (by kernel_rfl) { keep:=some [0,1,4,5]} [sG,sF,RH,RG,RD,Rz] (by kernel_rfl) ?_
  intro I X hI hX
  refine zh (.br (I.bnot (I.ieq (I.len (α:=Go.Ab.Evt) l) (I.len (α:=Go.Ab.Evt) m))) (.fin (.ret (.v (.one (.p (.bool Bool.false))))) []) (.code 0 [1,1,0,1,0] ⟨[(5,(.v (.one (.p (.int .i64 0))))),(4,(.v (.one (.p (.val (.bool .false)))))),(0,(.v (.one (.p (.list .evt l))))),(1,(.v (.one (.p (.list .evt m)))))],[],83,none⟩)) (by kernel_rfl) ?_
  simp only [zC]
  refine⟨fun c1=> ?_,fun c1=> ?_⟩
  · subst hI
    simp only [nrmA,nrmB] at c1
    simp only [nrmA,nrmB]
    rw [← hr]
    exact(decide_eq_false fun e=>c1 (by rw [e])).symm
  have hlm:l.length=m.length:=by
    subst hI
    simp only [nrmA,nrmB] at c1
    omega
  refine yw hI zu mixed [sG,sF,RH,RG,RD,Rz] hX [0,1,5] (fun(i:Nat)=>i≤l.length∧r=decide (l.drop i=m.drop i)) (fun(i:Nat)=>⟨[(0,.v (.one (.p (.list .evt l)))),(1,.v (.one (.p (.list .evt m)))),(5,.v (.one (.p (.int .i64 i))))],[],83,none⟩) (fun(i:Nat)=>l.length - i) 0 (by kernel_rfl) (by kernel_rfl) ?_ ?_
  · exact⟨Nat.zero_le _,hr.symm⟩
  rintro i ⟨h1,h2⟩ A hA
  refine zh (let y0:=I.get (α:=Go.Ab.Evt) l (Go.Ab.Evt.mk (0:Int) (Hd.mk ([]:Str) ([]:Str) (0:Int) ([]:List Fld) (0:Int)) ([]:Str) (Go.Ab.Prt.mk ([]:Str) ([]:Str) ([]:Str) ([]:Str)) (0:Int)) (Nat.cast i);let y1:=I.get (α:=Go.Ab.Evt) m (Go.Ab.Evt.mk (0:Int) (Hd.mk ([]:Str) ([]:Str) (0:Int) ([]:List Fld) (0:Int)) ([]:Str) (Go.Ab.Prt.mk ([]:Str) ([]:Str) ([]:Str) ([]:Str)) (0:Int)) (Nat.cast i);let y2:=I.inb (Nat.cast i) (I.len (α:=Go.Ab.Evt) l);let y3:=I.inb (Nat.cast i) (I.len (α:=Go.Ab.Evt) m);.br (I.ilt (Nat.cast i) (I.len (α:=Go.Ab.Evt) l)) (.need y2 (.need y2 (.need y3 (.need y3 (.br (I.bnot (I.ieq (Go.Ab.Evt.kind y0) (Go.Ab.Evt.kind y1))) (.fin (.ret (.v (.one (.p (.bool Bool.false))))) []) (.need y2 (.need y2 (.need y3 (.need y3 (.br (I.bnot (I.ieq (Go.Ab.Evt.code y0) (Go.Ab.Evt.code y1))) (.fin (.ret (.v (.one (.p (.bool Bool.false))))) []) (.need y2 (.need y2 (.need y3 (.need y3 (.need (I.hid (α:=(Prop)) True) (.br (I.bnot (I.hid (α:=Bool) (BEq.beq (Go.Ab.Evt.bytes y0) (Go.Ab.Evt.bytes y1)))) (.fin (.ret (.v (.one (.p (.bool Bool.false))))) []) (.need y2 (.need y2 (.need y3 (.need y3 (.need (I.hid (α:=(Prop)) (And (LE.le (List.length (Hd.fields (Go.Ab.Evt.head y0))) 140737488355328) (LE.le (List.length (Hd.fields (Go.Ab.Evt.head y1))) 140737488355328))) (.br (I.bnot (I.hid (α:=Bool) (hdB (Hd.method (Go.Ab.Evt.head y0)) (Hd.target (Go.Ab.Evt.head y0)) (Hd.minor (Go.Ab.Evt.head y0)) (Hd.fields (Go.Ab.Evt.head y0)) (Hd.length (Go.Ab.Evt.head y0)) (Hd.method (Go.Ab.Evt.head y1)) (Hd.target (Go.Ab.Evt.head y1)) (Hd.minor (Go.Ab.Evt.head y1)) (Hd.fields (Go.Ab.Evt.head y1)) (Hd.length (Go.Ab.Evt.head y1))))) (.fin (.ret (.v (.one (.p (.bool Bool.false))))) []) (.need y2 (.need y2 (.need y3 (.need y3 (.need (I.hid (α:=(Prop)) True) (.br (I.bnot (I.hid (α:=Bool) (ptB (Go.Ab.Prt.name (Go.Ab.Evt.part y0)) (Go.Ab.Prt.file (Go.Ab.Evt.part y0)) (Go.Ab.Prt.type (Go.Ab.Evt.part y0)) (Go.Ab.Prt.bytes (Go.Ab.Evt.part y0)) (Go.Ab.Prt.name (Go.Ab.Evt.part y1)) (Go.Ab.Prt.file (Go.Ab.Evt.part y1)) (Go.Ab.Prt.type (Go.Ab.Evt.part y1)) (Go.Ab.Prt.bytes (Go.Ab.Evt.part y1))))) (.fin (.ret (.v (.one (.p (.bool Bool.false))))) []) (.need (I.inr Go.IntKind.i64 (I.add (Nat.cast i) 1)) (.need (A ⟨[(0,(.v (.one (.p (.list .evt l))))),(1,(.v (.one (.p (.list .evt m))))),(5,(.v (.one (.p (.int .i64 (I.add (Nat.cast i) 1))))))],[],83,none⟩) .qed)))))))))))))))))))))))))))))) (.fin (.ret (.v (.one (.p (.bool Bool.true))))) [])) (by kernel_rfl) ?_
  simp only [zC]
  subst hI
  simp only [nrmA,nrmB,nrlB,reduceCtorEq]
  have hd:i<l.length→_:=fun h=>zhp (l:=l) (m:=m) (i:=i) ⟨0,⟨[],[],0,[],0⟩,[],⟨[],[],[],[]⟩,0⟩ h (by omega)
  have hend: ¬ i<l.length→r=true:=fun h=>by
    rw [h2,List.drop_of_length_le (by omega),List.drop_of_length_le (by omega)];simp
  have hfx:i<l.length→(l.getD i ⟨0,⟨[],[],0,[],0⟩,[],⟨[],[],[],[]⟩,0⟩).head.fields.length≤140737488355328:=fun h=>hl2 _ (by simp [h])
  have hfy:i<l.length→(m.getD i ⟨0,⟨[],[],0,[],0⟩,[],⟨[],[],[],[]⟩,0⟩).head.fields.length≤140737488355328:=fun h=>hm2 _ (getD_in _ (by omega))
  generalize l.getD i ⟨0,⟨[],[],0,[],0⟩,[],⟨[],[],[],[]⟩,0⟩=x at *
  generalize m.getD i ⟨0,⟨[],[],0,[],0⟩,[],⟨[],[],[],[]⟩,0⟩=y at *
  have hx: ¬ x=y→i<l.length→r=false:=fun h hi=>by rw [h2,hd hi,decide_eq_false h,Bool.false_and]
  have hy:x=y→i<l.length→r=decide (l.drop (i+1)=m.drop (i+1)):=fun h hi=>by rw [h2,hd hi,decide_eq_true h,Bool.true_and]
  have hbh:=ziN (x:=x.head) (y:=y.head)
  have hbp:=zir (x:=x.part) (y:=y.part)
  generalize hdB x.head.method x.head.target x.head.minor x.head.fields x.head.length y.head.method y.head.target y.head.minor y.head.fields y.head.length=B1 at *
  generalize ptB x.part.name x.part.file x.part.type x.part.bytes y.part.name y.part.file y.part.type y.part.bytes=B2 at *
  (repeat' (first|refine And.intro ?_ ?_|intro _))<;>first|omega|exact True.intro|exact False.elim ‹False›|skip
  all_goals first
    |omega
    |(exact(hx (by rintro rfl;simp_all) (by omega)).symm)
    |(rw [hx (by rintro rfl;simp_all) (by omega)])
    |exact hA (i+1) ⟨by omega,hy (ziV (by simp_all) (by simp_all) (by simp_all) (by simp_all) (by simp_all)) (by omega)⟩ (by omega)
    |(rw [hend (by omega)])
def Zj (I:Alg) (args:List D) (hp:List HO):Option CT:=match args,hp with
  |[.v (.one (.p (.list .evt l))),.v (.one (.p (.list .evt m)))],[]=>(fun(l m:List Evt)=>(some (.one ⟨I.hid (fewE l∧fewE m),(.ret (.v (.one (.p (.bool (I.hid ((decide (l=m))))))))),[]⟩):Option CT)) l m
  |_,_=>none
theorem RJ:zI Tryz.prog 11 (Zj alg):=by
  intro args hp r h
  unfold Zj at h
  split at h
  · cases h;exact fun hn=>zic _ _ hn
  · cases h
def Wn:Know Tryz.prog:=⟨11,Zj,RJ⟩
def Wl:Know Tryz.prog:=⟨11,fun I=>zK I (Zj I),zf RJ⟩
end Go.Proofs.YtmibhbdfigpkmaaGreatDoor
namespace Go.Proofs.YtmibhbdfigpkmaaGreatDoor
open Go Go.Sep Go.Ab
set_option maxRecDepth 100000
theorem zgW (l:List Evt) (hneed:zO l≤1000000∧l.length≤10000000):Spc Tryz.prog 17 [.v (.one (.p (.list .evt l)))] [] (.ret (.v (.one (.row 0)))) [.row .evt 32 ((zD l))]:=by
  obtain⟨hn1,hn2⟩:=hneed
  refine spcG zu mixed Tryz.func17 (by kernel_rfl) { nr:=[3],keep:=some [0,2,3,5,6,7,8,9,10]} [yS,yR] (by kernel_rfl) ?_
  intro I X hI hX
  refine zh (.code 0 [1,1,0,1,0] ⟨[(10,(.v (.one (.p (.int .i64 0))))),(9,(.v (.one (.p (.int .i64 (I.len (α:=Go.Ab.Evt) l)))))),(8,(.v (.one (.p (.list .evt l))))),(3,(.v (.one (.row 0)))),(2,(.v (.one .nilS))),(0,(.v (.one (.p (.list .evt l)))))],[(.row .evt 32 ([]:List Go.Ab.Evt))],52,none⟩) (by kernel_rfl) ?_
  simp only [zC]
  refine yw hI zu mixed [yS,yR] hX [0,3,8,9,10] (fun(g:Nat × List Evt)=>match g with|(i,o)=>i≤l.length∧o=zD (l.take i)) (fun(g:Nat × List Evt)=>match g with|(i,o)=>⟨[(0,.v (.one (.p (.list .evt l)))),(3,.v (.one (.row 0))),(8,.v (.one (.p (.list .evt l)))),(9,.v (.one (.p (.int .i64 ((I.len (α:=Evt) l)))))),(10,.v (.one (.p (.int .i64 i))))],[.row .evt 32 o],52,none⟩) (fun(g:Nat × List Evt)=>match g with|(i,o)=>l.length - i) (0,[]) (by kernel_rfl) (by kernel_rfl) ?_ ?_
  · exact⟨Nat.zero_le _,rfl⟩
  rintro⟨i,o⟩ ⟨h1,h2⟩ A hA
  simp only at hA h1 h2
  refine zh (let y0:=I.get (α:=Go.Ab.Evt) l (Go.Ab.Evt.mk (0:Int) (Hd.mk ([]:Str) ([]:Str) (0:Int) ([]:List Fld) (0:Int)) ([]:Str) (Go.Ab.Prt.mk ([]:Str) ([]:Str) ([]:Str) ([]:Str)) (0:Int)) (Nat.cast i);let y1:=I.few (I.add (I.len (α:=Go.Ab.Evt) o) (I.len (α:=Go.Ab.Evt) ([(Go.Ab.Evt.mk (Go.Ab.Evt.kind y0) (Hd.mk (Hd.method (Go.Ab.Evt.head y0)) (Hd.target (Go.Ab.Evt.head y0)) (Hd.minor (Go.Ab.Evt.head y0)) (Hd.fields (Go.Ab.Evt.head y0)) (Hd.length (Go.Ab.Evt.head y0))) (Go.Ab.Evt.bytes y0) (Go.Ab.Prt.mk (Go.Ab.Prt.name (Go.Ab.Evt.part y0)) (Go.Ab.Prt.file (Go.Ab.Evt.part y0)) (Go.Ab.Prt.type (Go.Ab.Evt.part y0)) (Go.Ab.Prt.bytes (Go.Ab.Evt.part y0))) (Go.Ab.Evt.code y0))]:List Go.Ab.Evt))) 100000000;let y2:HO:=.row .evt 32 (I.app (α:=Go.Ab.Evt) o ([(Go.Ab.Evt.mk (Go.Ab.Evt.kind y0) (Hd.mk (Hd.method (Go.Ab.Evt.head y0)) (Hd.target (Go.Ab.Evt.head y0)) (Hd.minor (Go.Ab.Evt.head y0)) (Hd.fields (Go.Ab.Evt.head y0)) (Hd.length (Go.Ab.Evt.head y0))) (Go.Ab.Evt.bytes y0) (Go.Ab.Prt.mk (Go.Ab.Prt.name (Go.Ab.Evt.part y0)) (Go.Ab.Prt.file (Go.Ab.Evt.part y0)) (Go.Ab.Prt.type (Go.Ab.Evt.part y0)) (Go.Ab.Prt.bytes (Go.Ab.Evt.part y0))) (Go.Ab.Evt.code y0))]:List Go.Ab.Evt));let y6:=I.sub (I.len (α:=Go.Ab.Evt) o) 1;let y3:=I.get (α:=Go.Ab.Evt) o (Go.Ab.Evt.mk (0:Int) (Hd.mk ([]:Str) ([]:Str) (0:Int) ([]:List Fld) (0:Int)) ([]:Str) (Go.Ab.Prt.mk ([]:Str) ([]:Str) ([]:Str) ([]:Str)) (0:Int)) y6;let y4:=I.inb y6 (I.len (α:=Go.Ab.Evt) o);let y5:=I.inr Go.IntKind.i64 (I.add (Nat.cast i) 1);let y7:=I.inb (Nat.cast i) (I.len (α:=Go.Ab.Evt) l);let y8:=I.len (α:=UInt8) (Go.Ab.Evt.bytes y3);.br (I.ilt (Nat.cast i) (I.len (α:=Go.Ab.Evt) l)) (.need y7 (.need y7 (.need (I.inr Go.IntKind.i64 y6) (.br (I.ieq (Go.Ab.Evt.kind y0) 2) (.br (I.ile 0 y6) (.need y4 (.need y4 (.br (I.ieq (Go.Ab.Evt.kind y3) 2) (.need y4 (.need y4 (.need (I.few y8 140737488355328) (.need (I.few (I.add y8 (I.len (α:=UInt8) (Go.Ab.Evt.bytes y0))) 140737488355328) (.need y4 (.need y4 (.need y5 (.need (A ⟨[(0,(.v (.one (.p (.list .evt l))))),(3,(.v (.one (.row 0)))),(8,(.v (.one (.p (.list .evt l))))),(9,(.v (.one (.p (.int .i64 (I.len (α:=Go.Ab.Evt) l)))))),(10,(.v (.one (.p (.int .i64 (I.add (Nat.cast i) 1))))))],[(.row .evt 32 (I.set (α:=Go.Ab.Evt) o y6 (Go.Ab.Evt.mk (2:Int) (Hd.mk ([]:Str) ([]:Str) (0:Int) ([]:List Fld) (0:Int)) (I.app (α:=UInt8) (Go.Ab.Evt.bytes y3) (Go.Ab.Evt.bytes y0)) (Go.Ab.Prt.mk ([]:Str) ([]:Str) ([]:Str) ([]:Str)) (0:Int))))],52,none⟩) .qed)))))))) (.need y1 (.need y5 (.need (A ⟨[(0,(.v (.one (.p (.list .evt l))))),(3,(.v (.one (.row 0)))),(8,(.v (.one (.p (.list .evt l))))),(9,(.v (.one (.p (.int .i64 (I.len (α:=Go.Ab.Evt) l)))))),(10,(.v (.one (.p (.int .i64 (I.add (Nat.cast i) 1))))))],[y2],52,none⟩) .qed)))))) (.need y1 (.need y5 (.need (A ⟨[(0,(.v (.one (.p (.list .evt l))))),(3,(.v (.one (.row 0)))),(8,(.v (.one (.p (.list .evt l))))),(9,(.v (.one (.p (.int .i64 (I.len (α:=Go.Ab.Evt) l)))))),(10,(.v (.one (.p (.int .i64 (I.add (Nat.cast i) 1))))))],[y2],52,none⟩) .qed)))) (.need y1 (.need y5 (.need (A ⟨[(0,(.v (.one (.p (.list .evt l))))),(3,(.v (.one (.row 0)))),(8,(.v (.one (.p (.list .evt l))))),(9,(.v (.one (.p (.int .i64 (I.len (α:=Go.Ab.Evt) l)))))),(10,(.v (.one (.p (.int .i64 (I.add (Nat.cast i) 1))))))],[y2],52,none⟩) .qed))))))) (.fin (.ret (.v (.one (.row 0)))) [(.row .evt 32 o)])) (by kernel_rfl) ?_
  simp only [zC]
  subst hI
  simp only [nrmA,nrmB,nrlB,reduceCtorEq]
  have hl1:=ZR (l.take i)
  have hl2:(l.take i).length≤i:=by rw [List.length_take];omega
  have hl3:=Va (l.take i)
  have hl4: ∀ x ∈ zD (l.take i),x.bytes.length≤1000000:=fun x h=>by
    have a:=ZY h
    have b:=UB l i
    omega
  have hw: ¬ i<l.length→o=zD l:=fun h=>by rw [h2,List.take_of_length_le (by omega)]
  have hy:i<l.length→zD (l.take (i+1))=xU o (l.getD i ⟨0,⟨[],[],0,[],0⟩,[],⟨[],[],[],[]⟩,0⟩):=fun h=>by rw [List.take_succ_eq_append_getElem h,Um,h2];simp [h]
  have hl5:i<l.length→(l.getD i ⟨0,⟨[],[],0,[],0⟩,[],⟨[],[],[],[]⟩,0⟩).bytes.length≤1000000:=fun h=>by
    have:l.getD i ⟨0,⟨[],[],0,[],0⟩,[],⟨[],[],[],[]⟩,0⟩ ∈ l:=by simp [h]
    have:=ZY this
    omega
  rw [← h2] at hl1 hl4
  refine⟨fun c=> ?_,fun c=>hw (by omega)⟩
  have hlt:i<l.length:=by omega
  have hy:=hy hlt
  have hl5:=hl5 hlt
  generalize l.getD i ⟨0,⟨[],[],0,[],0⟩,[],⟨[],[],[],[]⟩,0⟩=e at *
  have hgo: ∀ r:List Evt,r=xU o e→(fun p:Nat × List Evt=>p.1≤l.length∧p.2=zD (l.take p.1)) (i+1,r):=fun r h=>⟨by simp only;omega,by simp only;rw [hy,h]⟩
  rcases List.eq_nil_or_concat o with he|⟨z,x,he⟩
  · subst he
    rw [uz] at hgo
    simp only [List.length_cons,List.length_nil]
    (repeat' (first|refine And.intro ?_ ?_|intro _))<;>first|omega|exact True.intro|exact False.elim ‹False›|skip
    all_goals first
      |omega
      |exact hA (i+1,_) (hgo _ rfl) (by simp only;omega)
  · rw [List.concat_eq_append] at he
    subst he
    have hx:=hl4 x (List.mem_append_right _ (List.mem_singleton.2 rfl))
    have hz:(((z++[x]).length:Int) - 1).toNat=z.length:=by rw [List.length_append,List.length_singleton];omega
    have hg: ∀ d,(z++[x]).getD z.length d=x:=fun d=>by simp
    have hs: ∀ d,(z++[x]).set z.length d=z++[d]:=fun d=>by simp
    rw [yC] at hgo
    rw [List.length_append,List.length_singleton] at hl1
    simp only [hz,hg,hs]
    simp only [List.length_append,List.length_cons,List.length_nil]
    clear hz hg hs
    (repeat' (first|refine And.intro ?_ ?_|intro _))<;>first|omega|exact True.intro|exact False.elim ‹False›|skip
    all_goals first
      |omega
      |(rw [if_pos ⟨‹e.kind=2›,‹x.kind=2›⟩] at hgo;exact hA (i+1,_) (hgo _ rfl) (by simp only;omega))
      |(rw [if_neg (fun h=>‹¬ e.kind=2› h.1)] at hgo;exact hA (i+1,_) (hgo _ rfl) (by simp only;omega))
      |(rw [if_neg (fun h=>‹¬ x.kind=2› h.2)] at hgo;exact hA (i+1,_) (hgo _ rfl) (by simp only;omega))
def rV (I:Alg) (args:List D) (hp:List HO):Option CT:=match args,hp with
  |[.v (.one (.p (.list .evt l)))],[]=>(fun(l:List Evt)=>(some (.one ⟨I.hid (zO l≤1000000∧l.length≤10000000),(.ret (.v (.one (.row 0)))),[.row .evt 32 (I.hid ((zD l)))]⟩):Option CT)) l
  |_,_=>none
theorem V5:zI Tryz.prog 17 (rV alg):=by
  intro args hp r h
  unfold rV at h
  split at h
  · cases h;exact fun hn=>zgW _ hn
  · cases h
def YB:Know Tryz.prog:=⟨17,rV,V5⟩
def YA:Know Tryz.prog:=⟨17,fun I=>zK I (rV I),zf V5⟩
theorem ziT {l:List Evt} (h:EvO l) (k:l.length≤10000000):fewE l:=⟨by omega,fun e m=>by have:=(h e m).1;omega⟩
end Go.Proofs.YtmibhbdfigpkmaaGreatDoor
namespace Go.Proofs.YtmibhbdfigpkmaaGreatDoor
open Go Go.Sep Go.Ab
set_option maxRecDepth 100000
def pcK (n:Nat) (c:Int):Nat:=((c % 18446744073709551616) % ((n:Int)+1)).toNat
theorem zjt (n:Nat) (c:Int):pcK n c≤n:=by
  unfold pcK
  have:=Int.emod_lt_of_pos (c % 18446744073709551616) (show(0:Int)<(n:Int)+1 by omega)
  omega
def pcs:Str→List Int→List Str
  |b,[]=>[b]
  |b,c::r=>b.take (pcK b.length c)::pcs (b.drop (pcK b.length c)) r
theorem zb5: ∀ (cs:List Int) (b:Str),(pcs b cs).flatten=b
  |[],b=>by simp [pcs]
  |c::r,b=>by simp [pcs,zb5 r]
theorem ze0: ∀ (cs:List Int) (b:Str),(pcs b cs).length=cs.length+1
  |[],b=>rfl
  |c::r,b=>by simp [pcs,ze0 r]
theorem pcW (c:Int) {n k:Nat} (h:k≤n) (hn:n≤1000000):IntKind.i64.wrap ((IntKind.u64.wrap c).tmod (IntKind.u64.wrap ((n:Int) - k+1)))=(pcK (n - k) c:Int):=by
  have e1:IntKind.u64.wrap c=c % 18446744073709551616:=by simp [IntKind.wrap_u64]
  have e2:IntKind.u64.wrap ((n:Int) - k+1)=((n - k:Nat):Int)+1:=by rw [IntKind.wrap_u64];omega
  rw [e1,e2,Int.tmod_eq_emod_of_nonneg (by omega)]
  unfold pcK
  have h1:=Int.emod_lt_of_pos (c % 18446744073709551616) (show(0:Int)<((n - k:Nat):Int)+1 by omega)
  have h2:=Int.emod_nonneg (c % 18446744073709551616) (show((n - k:Nat):Int)+1≠0 by omega)
  generalize c % 18446744073709551616 % (((n - k:Nat):Int)+1)=z at *
  rw [IntKind.wrap_i64]
  omega
theorem pcU {n k:Nat} (h:k≤n) (hn:n≤1000000): ¬ IntKind.u64.wrap ((n:Int) - k+1)=0:=by rw [IntKind.wrap_u64];omega
theorem ziv (b:Str) (cs:List Int) (hneed:cs.length≤1000000∧b.length≤1000000):Spc Tryz.prog 19 [.v (.one (.p (.list .byte b))),.v (.one (.p (.list .int cs)))] [] (.ret (.v (.one (.row 0)))) [.row .bytes 22 ((pcs b cs))]:=by
  refine spcG zu mixed Tryz.func19 (by kernel_rfl) { nr:=[5],keep:=some [0,1,4,5,6,7,8]} [] (by kernel_rfl) ?_
  intro I X hI hX
  refine zh (.code 0 [1,1,1,0,1,0] ⟨[(7,(.v (.one (.p (.int .i64 0))))),(6,(.v (.one (.p (.int .i64 0))))),(5,(.v (.one (.row 0)))),(4,(.v (.one .nilS))),(0,(.v (.one (.p (.list .byte b))))),(1,(.v (.one (.p (.list .int cs)))))],[(.row .bytes 22 ([]:List (Str)))],44,none⟩) (by kernel_rfl) ?_
  simp only [zC]
  refine yw hI zu mixed [] hX [0,1,5,6,7] (fun(g:Nat × Nat × List Str)=>match g with|(i,k,o)=>i≤cs.length∧k≤b.length∧o.length=i∧pcs b cs=o++pcs (b.drop k) (cs.drop i)) (fun(g:Nat × Nat × List Str)=>match g with|(i,k,o)=>⟨[(0,.v (.one (.p (.list .byte b)))),(1,.v (.one (.p (.list .int cs)))),(5,.v (.one (.row 0))),(6,.v (.one (.p (.int .i64 k)))),(7,.v (.one (.p (.int .i64 i))))],[.row .bytes 22 o],44,none⟩) (fun(g:Nat × Nat × List Str)=>match g with|(i,k,o)=>cs.length - i) (0,0,[]) (by kernel_rfl) (by kernel_rfl) ?_ ?_
  · exact⟨Nat.zero_le _,Nat.zero_le _,rfl,rfl⟩
  rintro⟨i,k,o⟩ ⟨h1,h2,h3,h4⟩ A hA
  simp only at hA h1 h2 h3 h4
  refine zh (let y1:=I.sub (I.len (α:=UInt8) b) (Nat.cast k);let y0:=I.add (Nat.cast k) (I.wrap Go.IntKind.i64 (I.rem (I.wrap Go.IntKind.u64 (I.get (α:=Int) cs 0 (Nat.cast i))) (I.wrap Go.IntKind.u64 (I.add y1 1))));let y2:=I.cut (α:=UInt8) b (Int.ofNat k) (I.len (α:=UInt8) b);let y3:=I.inb (Nat.cast i) (I.len (α:=Int) cs);let y4:=I.cut (α:=UInt8) b (Int.ofNat k) y0;.br (I.ilt (Nat.cast i) (I.len (α:=Int) cs)) (.need y3 (.need y3 (.need (I.inr Go.IntKind.i64 y1) (.need (I.inr Go.IntKind.i64 (I.add y1 1)) (.need (I.nne (I.wrap Go.IntKind.u64 (I.add y1 1))) (.need (I.inr Go.IntKind.i64 y0) (.need (I.cutb (Int.ofNat k) y0 (I.len (α:=UInt8) b)) (.need (I.few (I.add (I.len (α:=Str) o) (I.len (α:=Str) ([y4]:List (Str)))) 100000000) (.need (I.inr Go.IntKind.i64 (I.add (Nat.cast i) 1)) (.need (A ⟨[(0,(.v (.one (.p (.list .byte b))))),(1,(.v (.one (.p (.list .int cs))))),(5,(.v (.one (.row 0)))),(6,(.v (.one (.p (.int .i64 y0))))),(7,(.v (.one (.p (.int .i64 (I.add (Nat.cast i) 1))))))],[(.row .bytes 22 (I.app (α:=Str) o ([y4]:List (Str))))],44,none⟩) .qed)))))))))) (.need (I.cutb (Int.ofNat k) (I.len (α:=UInt8) b) (I.len (α:=UInt8) b)) (.need (I.few (I.add (I.len (α:=Str) o) (I.len (α:=Str) ([y2]:List (Str)))) 100000000) (.fin (.ret (.v (.one (.row 0)))) [(.row .bytes 22 (I.app (α:=Str) o ([y2]:List (Str))))])))) (by kernel_rfl) ?_
  simp only [zC]
  subst hI
  simp only [nrmA,nrmB,nrlB,reduceCtorEq]
  have hU:=pcU h2 hneed.2
  have hK:=zjt (b.length - k) (cs.getD i 0)
  have hW:=pcW (cs.getD i 0) h2 hneed.2
  rw [hW]
  have hgo:i<cs.length→_:=fun h=>hA (i+1,k+pcK (b.length - k) (cs.getD i 0),o++[(b.drop k).take (pcK (b.length - k) (cs.getD i 0))]) ⟨by simp only;omega,by simp only;omega,by simp [h3],by simp only;rw [h4,show cs.drop i=cs.getD i 0::cs.drop (i+1) by rw [List.drop_eq_getElem_cons h];simp [h]];simp [pcs,List.drop_drop]⟩ (by simp only;omega)
  have hend: ¬ i<cs.length→pcs b cs=o++[b.drop k]:=fun h=>by rw [h4,List.drop_of_length_le (l:=cs) (by omega)];rfl
  have hte:(b.drop k).take (b.length - k)=b.drop k:=List.take_of_length_le (by rw [List.length_drop];omega)
  have htk:((k:Int)+(pcK (b.length - k) (cs.getD i 0):Int)).toNat - k=pcK (b.length - k) (cs.getD i 0):=by omega
  rw [htk]
  generalize pcK (b.length - k) (cs.getD i 0)=z at *
  (repeat' (first|refine And.intro ?_ ?_|intro _))<;>first|omega|exact True.intro|exact False.elim ‹False›|skip
  all_goals first
    |omega
    |exact hU
    |(simp only [List.length_cons,List.length_nil];omega)
    |exact hgo (by omega)
    |(rw [hend (by omega),hte])
def ZI (I:Alg) (args:List D) (hp:List HO):Option CT:=match args,hp with
  |[.v (.one (.p (.list .byte b))),.v (.one (.p (.list .int cs)))],[]=>(fun(b:Str) (cs:List Int)=>(some (.one ⟨I.hid (cs.length≤1000000∧b.length≤1000000),(.ret (.v (.one (.row 0)))),[.row .bytes 22 (I.hid ((pcs b cs)))]⟩):Option CT)) b cs
  |_,_=>none
theorem Qj:zI Tryz.prog 19 (ZI alg):=by
  intro args hp r h
  unfold ZI at h
  split at h
  · cases h;exact fun hn=>ziv _ _ hn
  · cases h
def WG:Know Tryz.prog:=⟨19,ZI,Qj⟩
def WE:Know Tryz.prog:=⟨19,fun I=>zK I (ZI I),zf Qj⟩
end Go.Proofs.YtmibhbdfigpkmaaGreatDoor
namespace Go.Proofs.YtmibhbdfigpkmaaGreatDoor
open Go Go.Sep Go.Ab
set_option maxRecDepth 100000
structure PcI (b:Str) (L:List Str) (i:Nat) (q:Rq) (al:List Evt):Prop where
  le:i≤L.length
  ri:RqI q (L.take i).flatten.length
  ba:x9 q=x9 (zF rq0 (L.take i).flatten)
  jo:zD al=zD (zF rq0 (L.take i).flatten).out
  su:zO al≤(L.take i).flatten.length
  ln:al.length≤i * (4 * b.length)
  ob:EvO al
theorem zke (b:Str) (L:List Str):PcI b L 0 rq0 []:=⟨Nat.zero_le _,zjm,rfl,rfl,Nat.zero_le _,Nat.zero_le _,fun e h=>by cases h⟩
theorem zet: ∀ (b:Str) (q:Rq) (i:Nat),RqI q i→RqI (yE q b) (i+b.length)
  |[],q,i,h=>h
  | c::b,q,i,h=>by
    have:=zet b _ _ (zdj h c)
    rw [List.length_cons,show i+(b.length+1)=i+1+b.length by omega];exact this
theorem RQ: ∀ (b:Str) (q:Rq),zO (yE q b).out≤zO q.out+b.length
  |[],q=>Nat.le_refl _
  | c::b,q=>by
    have h1:=RQ b (rqF q c)
    have h2:=Ws q c
    rw [List.length_cons]
    have:yE q (c::b)=yE (rqF q c) b:=rfl
    rw [this];omega
theorem zaK {p q:Rq} (h:x9 p=x9 q) (b:Str):zF p b=zF q b:=by
  show yE (x9 p) b=yE (x9 q) b
  rw [h]
theorem Ro {L:List Str} {i:Nat} (h:i<L.length):(L.take (i+1)).flatten=(L.take i).flatten++L.getD i []:=by
  rw [List.take_succ_eq_append_getElem h,List.flatten_append,show L.getD i []=L[i] by simp [h]];simp
theorem tY (L:List Str) (i:Nat):(L.take i).flatten.length≤L.flatten.length:=by
  have h:L.flatten=(L.take i).flatten++(L.drop i).flatten:=by rw [← List.flatten_append,List.take_append_drop]
  rw [h,List.length_append];omega
theorem zhc {b:Str} {L:List Str} {i:Nat} {q:Rq} {al:List Evt} (h:PcI b L i q al) (hf:L.flatten=b) (k:i<L.length) (hb:b.length≤20000):rqN0 q (L.getD i []):=by
  refine⟨_,U5 h.ri (by simp),?_⟩
  have h1:=Ro k
  have h2:=tY L (i+1)
  rw [h1,List.length_append,hf] at h2
  omega
theorem zkd {b:Str} {L:List Str} {i:Nat} {q:Rq} {al:List Evt} (h:PcI b L i q al) (hf:L.flatten=b) (k:i<L.length) (hb:b.length≤20000):PcI b L (i+1) (zF q (L.getD i [])) (al++zD (zF q (L.getD i [])).out):=by
  have h1:=Ro k
  have h2:=tY L (i+1)
  rw [hf] at h2
  obtain⟨a1,a2⟩:=zdi rq0 (L.take i).flatten (L.getD i [])
  rw [← zaK h.ba] at a1 a2
  have hr:RqI (zF q (L.getD i [])) ((L.take i).flatten.length+(L.getD i []).length):=zet _ _ _ (U5 h.ri (by simp))
  have hs:zO (zF q (L.getD i [])).out≤(L.getD i []).length:=by have:=RQ (L.getD i []) { q with out:=[]};simpa [zO,zF] using this
  have ho:=hr.on
  rw [← List.length_append,← h1] at hr ho
  have hj:=ZR (zF q (L.getD i [])).out
  have hjs:=Va (zF q (L.getD i [])).out
  have hlen:(L.take (i+1)).flatten.length=(L.take i).flatten.length+(L.getD i []).length:=by rw [h1,List.length_append]
  refine⟨k,hr,?_,?_,?_,?_,?_⟩
  · rw [a1,h1]
  · rw [QF,← Un,h.jo,Un,h1,a2]
  · rw [yM,hlen];have:=h.su;omega
  · rw [List.length_append,Nat.succ_mul];have:=h.ln;omega
  · refine Za h.ob (Sr _ [] (zes _ _ _ (U5 h.ri (o:=[]) (by simp)) (by omega) (fun e m=>by cases m)))
theorem ziw {b:Str} {L:List Str} {q:Rq} {al:List Evt} (h:PcI b L L.length q al) (hf:L.flatten=b):x9 q=x9 (zF rq0 b)∧zD al=zD (zF rq0 b).out:=by
  have h1:=h.ba
  have h2:=h.jo
  rw [List.take_length,hf] at h1 h2
  exact⟨h1,h2⟩
theorem zgi {p q:Rq} (h:x9 p=x9 q):xH p=xH q∧p.pos=q.pos:=by
  have h1:(x9 p).pos=(x9 q).pos:=by rw [h]
  have h2:(x9 p).ln=(x9 q).ln:=by rw [h]
  have h1:p.pos=q.pos:=h1
  have h2:p.ln=q.ln:=h2
  unfold xH
  rw [h1,h2]
  exact⟨rfl,rfl⟩
end Go.Proofs.YtmibhbdfigpkmaaGreatDoor
namespace Go.Proofs.YtmibhbdfigpkmaaGreatDoor
open Go Go.Sep Go.Ab
set_option maxRecDepth 100000
theorem zep (m t:Str) (mi:Int) (fs:List Fld) (le:Int) (b:Str) (hneed:(m.length≤1000000∧t.length≤1000000)∧(fs.length≤1000∧∀ f ∈ fs,f.name.length≤1000000∧f.value.length≤1000000)∧b.length≤1000000):Spc Tryz.prog 14 [.v (.agg [(.p (.str m)),(.p (.str t)),(.p (.int .i64 mi)),(.p (.list .fld fs)),(.p (.int .i64 le))]),.v (.one (.p (.list .byte b)))] [] (.ret (.tup [(.one (.row 0)),(.one (.p (.int .i64 ((rqwC m t fs b)))))])) [.row .byte 5 ((rqwT m t fs b))]:=by
  obtain⟨⟨hm1,ht1⟩,⟨hfl,hf⟩,hb⟩:=hneed
  generalize hc:rqwC m t fs b=c
  generalize ht:rqwT m t fs b=T
  have hbl:=Z4 (b.length:Int)
  have hx0:=uo fs wX
  have hx1:=uo fs qC
  refine spcG zu mixed Tryz.func14 (by kernel_rfl) { keep:=some [0,1,2,4,5,6,8,9,11,12,13,79,80,81]} [xO,xN,xM,xK,UW,UU,qZ,qY,YQ,YP,TP,TN,xQ,xP,wF,wE,Yy,Yx] (by kernel_rfl) ?_
  intro I X hI hX
  refine zh (let y4:=([99,111,110,116,101,110,116,45,108,101,110,103,116,104]:Str);let y3:=([116,114,97,110,115,102,101,114,45,101,110,99,111,100,105,110,103]:Str);let y0:=I.add (I.len (α:=Str) (I.hid (α:=(List (Str))) (valsF fs y4))) (I.len (α:=Str) (I.hid (α:=(List (Str))) (valsF fs y3)));let y1:=([32,72,84,84,80,47,49,46,49]:Str);let y2:=I.len (α:=UInt8) (I.app (α:=UInt8) (I.app (α:=UInt8) (I.app (α:=UInt8) m ([32]:Str)) t) y1);let y5:=I.hid (α:=Int) (Prod.snd (oneF (valsF fs ([104,111,115,116]:Str))));.need (I.few (I.add (I.len (α:=UInt8) m) (I.len (α:=UInt8) ([32]:Str))) 1000000000) (.need (I.few (I.add (I.len (α:=UInt8) (I.app (α:=UInt8) m ([32]:Str))) (I.len (α:=UInt8) t)) 1000000000) (.need (I.few (I.add (I.len (α:=UInt8) (I.app (α:=UInt8) (I.app (α:=UInt8) m ([32]:Str)) t)) (I.len (α:=UInt8) y1)) 1000000000) (.need (I.hid (α:=(Prop)) (LE.le (List.length m) 1000000)) (.br (I.bnot (I.hid (α:=Bool) (yU m))) (.fin (.ret (.tup [(.one (.row 0)),(.one (.p (.int .i64 6)))])) [(.row .byte 5 ([]:Str))]) (.need (I.hid (α:=(Prop)) True) (.br (I.bnot (I.hid (α:=Bool) (Go.Lib.hasPrefix t ([47]:Str)))) (.fin (.ret (.tup [(.one (.row 0)),(.one (.p (.int .i64 5)))])) [(.row .byte 5 ([]:Str))]) (.need (I.hid (α:=(Prop)) (And (LE.le (List.length t) 1000000) (Eq ([32,9]:Str) ([32,9]:Str)))) (.br (I.hid (α:=Bool) (Go.Lib.containsAny t ([32,9]:Str))) (.fin (.ret (.tup [(.one (.row 0)),(.one (.p (.int .i64 5)))])) [(.row .byte 5 ([]:Str))]) (.need (I.hid (α:=(Prop)) (LE.le (List.length t) 1000000)) (.br (I.bnot (I.hid (α:=Bool) (yK t))) (.fin (.ret (.tup [(.one (.row 0)),(.one (.p (.int .i64 5)))])) [(.row .byte 5 ([]:Str))]) (.br (I.ilt 200 y2) (.fin (.ret (.tup [(.one (.row 0)),(.one (.p (.int .i64 4)))])) [(.row .byte 5 ([]:Str))]) (.br (I.ilt 4000 (I.len (α:=UInt8) b)) (.fin (.ret (.tup [(.one (.row 0)),(.one (.p (.int .i64 4)))])) [(.row .byte 5 ([]:Str))]) (.br (I.ilt 15 (I.len (α:=Fld) fs)) (.fin (.ret (.tup [(.one (.row 0)),(.one (.p (.int .i64 8)))])) [(.row .byte 5 ([]:Str))]) (.need (I.hid (α:=(Prop)) (And (LE.le (List.length fs) 1000) (And (LE.le (List.length y4) 1000000) (∀ (f:Fld),f ∈ fs→List.length f.name≤1000000∧List.length f.value≤1000000)))) (.need (I.hid (α:=(Prop)) (And (LE.le (List.length fs) 1000) (And (LE.le (List.length y3) 1000000) (∀ (f:Fld),f ∈ fs→List.length f.name≤1000000∧List.length f.value≤1000000)))) (.need (I.inr Go.IntKind.i64 y0) (.br (I.ilt 0 y0) (.fin (.ret (.tup [(.one (.row 0)),(.one (.p (.int .i64 12)))])) [(.row .byte 5 ([]:Str))]) (.need (I.hid (α:=(Prop)) (And (LE.le (List.length fs) 1000) (And (LE.le (List.length ([104,111,115,116]:Str)) 1000000) (∀ (f:Fld),f ∈ fs→List.length f.name≤1000000∧List.length f.value≤1000000)))) (.br (I.bnot (I.ieq y5 0)) (.fin (.ret (.tup [(.one (.row 0)),(.one (.p (.int .i64 13)))])) [(.row .byte 5 ([]:Str))]) (.need (I.few (I.add y2 (I.len (α:=UInt8) ([13,10]:Str))) 1000000000) (.code 0 [1,1,1,1,1,0,1,0] ⟨[(81,(.v (.one (.p (.int .i64 0))))),(80,(.v (.one (.p (.int .i64 (I.len (α:=Fld) fs)))))),(79,(.v (.one (.p (.list .fld fs))))),(9,(.v (.one (.row 3)))),(8,(.v (.one (.p (.int .i64 y5))))),(6,(.v (.one (.p (.str (I.app (α:=UInt8) (I.app (α:=UInt8) (I.app (α:=UInt8) m ([32]:Str)) t) y1)))))),(5,(.v (.one (.p (.int .i64 0))))),(4,(.v (.one .nilS))),(2,(.v (.one (.ptr 0 0)))),(0,(.v (.agg [(.p (.str m)),(.p (.str t)),(.p (.int .i64 mi)),(.p (.list .fld fs)),(.p (.int .i64 le))]))),(1,(.v (.one (.p (.list .byte b)))))],[(.obj 25 [(.p (.str m)),(.p (.str t)),(.p (.int .i64 mi)),(.p (.list .fld fs)),(.p (.int .i64 le))]),(.row .str 9 (I.hid (α:=(List (Str))) (valsF fs y4))),(.row .str 9 (I.hid (α:=(List (Str))) (valsF fs y3))),(.row .byte 5 (I.app (α:=UInt8) (I.app (α:=UInt8) (I.app (α:=UInt8) (I.app (α:=UInt8) m ([32]:Str)) t) y1) ([13,10]:Str)))],108,none⟩)))))))))))))))))))))) (by kernel_rfl) ?_
  simp only [zC]
  rw [show([99,111,110,116,101,110,116,45,108,101,110,103,116,104]:Str)=wX from rfl,show([116,114,97,110,115,102,101,114,45,101,110,99,111,100,105,110,103]:Str)=qC from rfl,show([104,111,115,116]:Str)=uQ from rfl]
  have hk1:wX.length≤1000000:=by decide
  have hk2:qC.length≤1000000:=by decide
  have hk3:uQ.length≤1000000:=by decide
  (repeat' (first|refine And.intro ?_ ?_|intro _))
  all_goals try(subst hI;(simp only [nrmA,nrmB,nrlB,reduceCtorEq] at *);first|done|trivial|omega|exact⟨ht1,rfl⟩|exact⟨hfl,by assumption,hf⟩|(simp only [List.length_append,List.length_cons,List.length_nil];omega)|(unfold rqwT at ht;unfold rqwC rqHd at ht hc;((repeat(first|rewrite [if_pos (by first|omega|assumption|(simp only [*,or_self,or_true,true_or,or_false,false_or,not_true_eq_false,not_false_eq_true,Bool.false_eq_true,Bool.true_eq_false,and_self,and_true,true_and];done)|(simp only [*];omega)|(simp [*];done)|(simp [*];omega))] at hc|rewrite [if_neg (by first|omega|assumption|(simp only [*,or_self,or_true,true_or,or_false,false_or,not_true_eq_false,not_false_eq_true,Bool.false_eq_true,Bool.true_eq_false,and_self,and_true,true_and];done)|(simp only [*];omega)|(simp [*];done)|(simp [*];omega))] at hc)));subst hc;((repeat(first|rewrite [if_pos (by first|omega|assumption|(simp only [*,or_self,or_true,true_or,or_false,false_or,not_true_eq_false,not_false_eq_true,Bool.false_eq_true,Bool.true_eq_false,and_self,and_true,true_and];done)|(simp only [*];omega)|(simp [*];done)|(simp [*];omega))] at ht|rewrite [if_neg (by first|omega|assumption|(simp only [*,or_self,or_true,true_or,or_false,false_or,not_true_eq_false,not_false_eq_true,Bool.false_eq_true,Bool.true_eq_false,and_self,and_true,true_and];done)|(simp only [*];omega)|(simp [*];done)|(simp [*];omega))] at ht)));subst ht;first|exact⟨rfl,rfl⟩|rfl))
  have hok:yU m=true∧Lib.hasPrefix t [47]=true∧Lib.containsAny t [32,9]=false∧yK t=true∧(rqHd m t).length≤200∧b.length≤4000∧fs.length≤15∧(valsF fs wX).length+(valsF fs qC).length=0∧(oneF (valsF fs uQ)).2=0:=by
    subst hI
    unfold rqHd
    simp only [nrmA,nrmB,nrlB,reduceCtorEq] at *
    exact⟨by simpa using ‹yU m=_›,by simpa using ‹Lib.hasPrefix t [47]=_›,by simpa using ‹Lib.containsAny t [32,9]=_›,by simpa using ‹yK t=_›,by omega,by omega,by omega,by omega,by assumption⟩
  obtain⟨k1,k2,k3,k4,k5,k6,k7,k8,k9⟩:=hok
  have hc2:c=badF fs:=by
    rw [← hc,rqwC,if_neg (by rw [k1];simp),if_neg (by rw [k2];simp),if_neg (by rw [k3];simp),if_neg (by rw [k4];simp),if_neg (by omega),if_neg (by omega),if_neg (by omega),if_neg (by omega),if_neg (fun h=>h k9)]
  have ht2:badF fs=0→T=rqHd m t++[13,10]++yQ fs++tZ b.length++b:=fun h=>by
    rw [← ht,rqwT,hc,hc2,if_pos h]
  have ht3:badF fs≠0→T=[]:=fun h=>by rw [← ht,rqwT,hc,hc2,if_neg h]
  refine yw hI zu mixed [xO,xN,xM,xK,UW,UU,qZ,qY,YQ,YP,TP,TN,xQ,xP,wF,wE,Yy,Yx] hX [1,2,5,9,79,80,81] (fun(g:Nat × Str)=>match g with|(i,o)=>i≤fs.length∧o=rqHd m t++[13,10]++yQ (fs.take i)∧badF fs=badF (fs.drop i)) (fun(g:Nat × Str)=>match g with|(i,o)=>⟨[(1,.v (.one (.p (.list .byte b)))),(2,.v (.one (.ptr 0 0))),(5,.v (.one (.p (.int .i64 0)))),(9,.v (.one (.row 1))),(79,.v (.one (.p (.list .fld fs)))),(80,.v (.one (.p (.int .i64 ((I.len (α:=Fld) fs)))))),(81,.v (.one (.p (.int .i64 i))))],[.pack [.obj 25 [(.p (.str m)),(.p (.str t)),(.p (.int .i64 mi)),(.p (.list .fld fs)),(.p (.int .i64 le))]],.row .byte 5 o],108,none⟩) (fun(g:Nat × Str)=>match g with|(i,o)=>fs.length - i) (0,I.app (I.app (I.app (I.app m [32]) t) [32,72,84,84,80,47,49,46,49]) [13,10]) (by kernel_rfl) (by kernel_rfl) ?_ ?_
  · refine⟨Nat.zero_le _,?_,rfl⟩
    subst hI
    simp only [rD,Ri,rqHd,List.take_zero,yQ,List.append_nil]
  rintro⟨i,o⟩ ⟨h1,h2,h3⟩ A hA
  simp only at hA h1 h2 h3
  refine zh (let y0:=I.get (α:=Fld) fs (Fld.mk ([]:Str) ([]:Str)) (Nat.cast i);let y1:=([67,111,110,116,101,110,116,45,76,101,110,103,116,104,58,32]:Str);let y2:=I.hid (α:=Str) (decS (I.len (α:=UInt8) b));let y3:=I.hid (α:=Str) (Prod.fst (textF (Fld.mk (Fld.name y0) (Fld.value y0))));let y4:=I.hid (α:=Int) (Prod.snd (textF (Fld.mk (Fld.name y0) (Fld.value y0))));let y5:=I.inb (Nat.cast i) (I.len (α:=Fld) fs);.br (I.ilt (Nat.cast i) (I.len (α:=Fld) fs)) (.need y5 (.need y5 (.need (I.hid (α:=(Prop)) (And (LE.le (List.length (Fld.name y0)) 1000000) (LE.le (List.length (Fld.value y0)) 1000000))) (.br (I.bnot (I.ieq y4 0)) (.fin (.ret (.tup [(.one (.row 0)),(.one (.p (.int .i64 y4)))])) [(.row .byte 5 ([]:Str))]) (.need (I.few (I.add (I.len (α:=UInt8) y3) (I.len (α:=UInt8) ([13,10]:Str))) 1000000000) (.need (I.few (I.add (I.len (α:=UInt8) o) (I.len (α:=UInt8) (I.app (α:=UInt8) y3 ([13,10]:Str)))) 140737488355328) (.need (I.inr Go.IntKind.i64 (I.add (Nat.cast i) 1)) (.need (A ⟨[(1,(.v (.one (.p (.list .byte b))))),(2,(.v (.one (.ptr 0 0)))),(5,(.v (.one (.p (.int .i64 0))))),(9,(.v (.one (.row 1)))),(79,(.v (.one (.p (.list .fld fs))))),(80,(.v (.one (.p (.int .i64 (I.len (α:=Fld) fs)))))),(81,(.v (.one (.p (.int .i64 (I.add (Nat.cast i) 1))))))],[(.pack [(.obj 25 [(.p (.str m)),(.p (.str t)),(.p (.int .i64 mi)),(.p (.list .fld fs)),(.p (.int .i64 le))])]),(.row .byte 5 (I.app (α:=UInt8) o (I.app (α:=UInt8) y3 ([13,10]:Str))))],108,none⟩) .qed)))))))) (.need (I.hid (α:=(Prop)) (And (LE.le (0:Int) (I.len (α:=UInt8) b)) (LT.lt (I.len (α:=UInt8) b) (1000000000:Int)))) (.need (I.few (I.add (I.len (α:=UInt8) y1) (I.len (α:=UInt8) y2)) 1000000000) (.need (I.few (I.add (I.len (α:=UInt8) (I.app (α:=UInt8) y1 y2)) (I.len (α:=UInt8) ([13,10,13,10]:Str))) 1000000000) (.need (I.few (I.add (I.len (α:=UInt8) o) (I.len (α:=UInt8) (I.app (α:=UInt8) (I.app (α:=UInt8) y1 y2) ([13,10,13,10]:Str)))) 140737488355328) (.need (I.few (I.add (I.len (α:=UInt8) (I.app (α:=UInt8) o (I.app (α:=UInt8) (I.app (α:=UInt8) y1 y2) ([13,10,13,10]:Str)))) (I.len (α:=UInt8) b)) 140737488355328) (.fin (.ret (.tup [(.one (.row 0)),(.one (.p (.int .i64 0)))])) [(.row .byte 5 (I.app (α:=UInt8) (I.app (α:=UInt8) o (I.app (α:=UInt8) (I.app (α:=UInt8) y1 y2) ([13,10,13,10]:Str))) b))]))))))) (by kernel_rfl) ?_
  simp only [zC]
  subst hI
  simp only [nrmA,nrmB,nrlB,reduceCtorEq]
  have hx:i<fs.length→(fs.getD i ⟨[],[]⟩) ∈ fs:=fun h=>by rw [show fs.getD i ⟨[],[]⟩=fs[i] by simp [h]];exact List.getElem_mem h
  have hd:i<fs.length→_:=fun h=>zas (fs:=fs) (i:=i) h
  have hk:i<fs.length→_:=fun h=>Uz (fs:=fs) (i:=i) h
  have hol:(yQ (fs.take i)).length≤202 * 16:=by
    have:=ZW (fs.take i)
    rw [List.length_take] at this
    omega
  have hol2:o.length≤4000:=by rw [h2,List.length_append,List.length_append,List.length_cons,List.length_cons,List.length_nil];omega
  have hend: ¬ i<fs.length→badF fs=0∧yQ (fs.take i)=yQ fs:=fun h=>by
    rw [h3,List.drop_of_length_le (by omega),List.take_of_length_le (by omega)];exact⟨rfl,rfl⟩
  have hfi:=fun h=>hf _ (hx h)
  have htl:=fun f=>X5 f
  generalize fs.getD i ⟨[],[]⟩=x at *
  have e0:(⟨x.name,x.value⟩:Fld)=x:=rfl
  rw [e0]
  have htl:=htl x
  refine⟨fun c1=>⟨⟨by omega,by omega⟩,⟨by omega,by omega⟩,hfi (by omega),fun c2=> ?_,fun c2=>⟨?_,?_,by omega,?_⟩⟩,fun c1=> ?_⟩
  · have hd:=hd (by omega)
    rw [if_neg c2] at hd
    exact⟨by rw [hc2,h3,hd],(ht3 (by rw [h3,hd];exact c2)).symm⟩
  · simp only [List.length_cons,List.length_nil];omega
  · simp only [List.length_append,List.length_cons,List.length_nil];omega
  · have hd:=hd (by omega)
    rw [if_pos c2] at hd
    exact hA (i+1,o++((textF x).1++[13,10])) ⟨by simp only;omega,by simp only;rw [hk (by omega),h2];simp only [List.append_assoc],by simp only;rw [h3,hd]⟩ (by simp only;omega)
  · obtain⟨e1,e2⟩:=hend (by omega)
    simp only [List.length_append,List.length_cons,List.length_nil]
    refine⟨by omega,by omega,by omega,by omega,by omega,by rw [hc2,e1],?_⟩
    rw [ht2 e1,h2,e2]
    unfold tZ
    simp only [List.append_assoc]
theorem zdX {m t:Str} {fs:List Fld} {b:Str} (h:0<b.length):wH m t fs b=[evH ⟨m,t,1,fs++[VK (b.length:Int)],(b.length:Int)⟩]++[evB b]++[evE]:=by
  rw [wH,bodE,if_neg (by intro h0;rw [h0] at h;cases h)]
theorem zdY {m t:Str} {fs:List Fld} {b:Str} (h: ¬ 0<b.length):wH m t fs b=[evH ⟨m,t,1,fs++[VK (b.length:Int)],(b.length:Int)⟩]++[evE]:=by
  rw [wH,bodE,if_pos (List.eq_nil_of_length_eq_zero (by omega))];rfl
theorem zdZ (m t:Str) (fs:List Fld) (b:Str):(wH m t fs b).length≤3:=by
  by_cases h:0<b.length
  · rw [zdX h];simp
  · rw [zdY h];simp
def uG (I:Alg) (args:List D) (hp:List HO):Option CT:=match args,hp with
  |[.v (.agg [(.p (.str m)),(.p (.str t)),(.p (.int .i64 mi)),(.p (.list .fld fs)),(.p (.int .i64 le))]),.v (.one (.p (.list .byte b)))],[]=>(fun(m t:Str) (mi:Int) (fs:List Fld) (le:Int) (b:Str)=>(some (.one ⟨I.hid ((m.length≤1000000∧t.length≤1000000)∧(fs.length≤1000∧∀ f ∈ fs,f.name.length≤1000000∧f.value.length≤1000000)∧b.length≤1000000),(.ret (.tup [(.one (.row 0)),(.one (.p (.int .i64 (I.hid ((rqwC m t fs b))))))])),[.row .byte 5 (I.hid ((rqwT m t fs b)))]⟩):Option CT)) m t mi fs le b
  |_,_=>none
theorem Wq:zI Tryz.prog 14 (uG alg):=by
  intro args hp r h
  unfold uG at h
  split at h
  · cases h;exact fun hn=>zep _ _ _ _ _ _ hn
  · cases h
def qM:Know Tryz.prog:=⟨14,uG,Wq⟩
def qL:Know Tryz.prog:=⟨14,fun I=>zK I (uG I),zf Wq⟩
set_option maxHeartbeats 4000000 in
theorem rqBack_ (m t:Str) (mi:Int) (fs:List Fld) (le:Int) (m2 t2:Str) (mi2:Int) (fs2:List Fld) (le2:Int) (a b:Str) (cs:List Int) (hneed:((m.length≤140737488355328∧t.length≤140737488355328)∧m2.length≤140737488355328∧t2.length≤140737488355328)∧((∀ f ∈ fs,f.name.length≤140737488355328∧f.value.length≤140737488355328)∧∀ f ∈ fs2,f.name.length≤140737488355328∧f.value.length≤140737488355328)∧a.length≤140737488355328∧b.length≤140737488355328):Spc Tryz.prog 5 [.v (.agg [(.p (.str m)),(.p (.str t)),(.p (.int .i64 mi)),(.p (.list .fld fs)),(.p (.int .i64 le))]),.v (.agg [(.p (.str m2)),(.p (.str t2)),(.p (.int .i64 mi2)),(.p (.list .fld fs2)),(.p (.int .i64 le2))]),.v (.one (.p (.list .byte a))),.v (.one (.p (.list .byte b))),.v (.one (.p (.list .int cs)))] [] (.ret (.v (.one (.p (.bool true))))) []:=by
  obtain⟨⟨⟨hm0,ht0⟩,hm20,ht20⟩,⟨hfs,hfs2⟩,ha0,hb0⟩:=hneed
  refine spcG zu mixed Tryz.func5 (by kernel_rfl) { cfgQ with fz:=[11,19],nr:=[16,19,24],keep:=some [0,1,2,3,4,5,6,10,11,12,13,14,15,16,17,18,19,20,21,22,23,24]} [TV,TU,ze8,ze7,Xz,Xy,Wv,Wu,ZB,ZA,yS,yR,YB,YA,Zr,Zq,qM,qL,YD,YC,Wn,Wl,WG,WE] (by kernel_rfl) ?_
  intro I X hI hX
  refine zh (let y0:=I.hid (α:=Str) (rqwT m2 t2 fs2 b);let y1:=I.ieq (I.hid (α:=Int) (rqwC m2 t2 fs2 b)) 0;let y2:=I.add (I.add (I.len (α:=UInt8) m) (I.len (α:=UInt8) t)) (I.len (α:=UInt8) m2);let y3:=I.hid (α:=Str) (rqwT m t fs a);let y4:=I.hid (α:=Int) (rqwC m t fs a);let y5:=I.add (I.len (α:=UInt8) a) (I.len (α:=UInt8) b);let y6:=I.add y2 (I.len (α:=UInt8) t2);.need (I.hid (α:=(Prop)) True) (.br (I.bnot Bool.true) (.fin (.ret (.v (.one (.p (.bool Bool.false))))) []) (.need (I.inr Go.IntKind.i64 y5) (.br (I.ilt 9000 y5) (.fin (.ret (.v (.one (.p (.bool Bool.true))))) []) (.need (I.hid (α:=(Prop)) (∀ (f:Fld),f ∈ fs→List.length f.name≤140737488355328∧List.length f.value≤140737488355328)) (.br (I.hid (α:=Bool) (sW fs)) (.fin (.ret (.v (.one (.p (.bool Bool.true))))) []) (.need (I.hid (α:=(Prop)) (∀ (f:Fld),f ∈ fs2→List.length f.name≤140737488355328∧List.length f.value≤140737488355328)) (.br (I.hid (α:=Bool) (sW fs2)) (.fin (.ret (.v (.one (.p (.bool Bool.true))))) []) (.br (I.ilt 100 (I.len (α:=Int) cs)) (.fin (.ret (.v (.one (.p (.bool Bool.true))))) []) (.need (I.inr Go.IntKind.i64 (I.add (I.len (α:=UInt8) m) (I.len (α:=UInt8) t))) (.need (I.inr Go.IntKind.i64 y2) (.need (I.inr Go.IntKind.i64 y6) (.br (I.ilt 2000 y6) (.fin (.ret (.v (.one (.p (.bool Bool.true))))) []) (.need (I.hid (α:=(Prop)) (And (And (LE.le (List.length m) 1000000) (LE.le (List.length t) 1000000)) (And (And (LE.le (List.length fs) 1000) (∀ (f:Fld),f ∈ fs→List.length f.name≤1000000∧List.length f.value≤1000000)) (LE.le (List.length a) 1000000)))) (.need (I.hid (α:=(Prop)) (And (And (LE.le (List.length m2) 1000000) (LE.le (List.length t2) 1000000)) (And (And (LE.le (List.length fs2) 1000) (∀ (f:Fld),f ∈ fs2→List.length f.name≤1000000∧List.length f.value≤1000000)) (LE.le (List.length b) 1000000)))) (.br (I.bnot (I.ieq y4 0)) (.br (I.ieq y4 0) (.br y1 (.fin (.ret (.v (.one (.p (.bool Bool.true))))) []) (.fin (.ret (.v (.one (.p (.bool (I.ieq (I.len (α:=UInt8) y0) 0)))))) [])) (.br (I.ieq (I.len (α:=UInt8) y3) 0) (.br y1 (.fin (.ret (.v (.one (.p (.bool Bool.true))))) []) (.fin (.ret (.v (.one (.p (.bool (I.ieq (I.len (α:=UInt8) y0) 0)))))) [])) (.fin (.ret (.v (.one (.p (.bool Bool.false))))) []))) (.br (I.bnot y1) (.br (I.ieq y4 0) (.br y1 (.fin (.ret (.v (.one (.p (.bool Bool.true))))) []) (.fin (.ret (.v (.one (.p (.bool (I.ieq (I.len (α:=UInt8) y0) 0)))))) [])) (.br (I.ieq (I.len (α:=UInt8) y3) 0) (.br y1 (.fin (.ret (.v (.one (.p (.bool Bool.true))))) []) (.fin (.ret (.v (.one (.p (.bool (I.ieq (I.len (α:=UInt8) y0) 0)))))) [])) (.fin (.ret (.v (.one (.p (.bool Bool.false))))) []))) (.need (I.hid (α:=(Prop)) True) (.need (I.few (I.add (I.len (α:=UInt8) y3) (I.len (α:=UInt8) y0)) 140737488355328) (.need (I.hid (α:=(Prop)) (And (LE.le (List.length cs) 1000000) (LE.le (List.length (I.app (α:=UInt8) y3 y0)) 1000000))) (.code 0 [1,1,1,1,1,1,1,1,1,0,1,0] ⟨[(18,(.v (.one (.p (.int .i64 0))))),(17,(.v (.one (.row 7)))),(16,(.v (.one (.row 5)))),(15,(.v (.one (.ptr 4 0)))),(14,(.v (.one (.p (.int .i64 (I.hid (α:=Int) (rqwC m2 t2 fs2 b))))))),(13,(.v (.one (.row 3)))),(12,(.v (.one (.p (.int .i64 y4))))),(11,(.v (.one (.row 2)))),(10,(.v (.one (.p (.val (.bool .false)))))),(6,(.v (.one (.ptr 1 0)))),(5,(.v (.one (.ptr 0 0)))),(0,(.v (.agg [(.p (.str m)),(.p (.str t)),(.p (.int .i64 mi)),(.p (.list .fld fs)),(.p (.int .i64 le))]))),(1,(.v (.agg [(.p (.str m2)),(.p (.str t2)),(.p (.int .i64 mi2)),(.p (.list .fld fs2)),(.p (.int .i64 le2))]))),(2,(.v (.one (.p (.list .byte a))))),(3,(.v (.one (.p (.list .byte b))))),(4,(.v (.one (.p (.list .int cs)))))],[(.obj 25 [(.p (.str m)),(.p (.str t)),(.p (.int .i64 mi)),(.p (.list .fld fs)),(.p (.int .i64 le))]),(.obj 25 [(.p (.str m2)),(.p (.str t2)),(.p (.int .i64 mi2)),(.p (.list .fld fs2)),(.p (.int .i64 le2))]),.gone,(.row .byte 5 y0),(.abs (.rq rq0)),(.row .evt 32 ([]:List Go.Ab.Evt)),.gone,(.row .bytes 22 (I.hid (α:=(List (Str))) (pcs (I.app (α:=UInt8) y3 y0) cs)))],192,none⟩))))))))))))))))))))) (by kernel_rfl) ?_
  simp only [zC]
  have hT1: ¬ rqwC m t fs a=0→rqwT m t fs a=[]:=fun h=>by rw [rqwT,if_neg h]
  have hT2: ¬ rqwC m2 t2 fs2 b=0→rqwT m2 t2 fs2 b=[]:=fun h=>by rw [rqwT,if_neg h]
  have hok:=fun h k=>zgI (m:=m) (t:=t) (fs:=fs) (a:=a) (m2:=m2) (t2:=t2) (fs2:=fs2) (b:=b) h k
  have hl1:=fun h=>zbL (m:=m) (t:=t) (fs:=fs) (b:=a) h
  have hl2:=fun h=>zbL (m:=m2) (t:=t2) (fs:=fs2) (b:=b) h
  have hb1:=fun h:rqwC m t fs a=0=>(zey h).1.bl
  have hb2:=fun h:rqwC m2 t2 fs2 b=0=>(zey h).1.bl
  have hg: ∀ l:List Fld,sW l=false→l.length≤100∧∀ f ∈ l,f.name.length≤1000000∧f.value.length≤1000000:=fun l h=>by
    unfold sW at h
    simp only [Bool.or_eq_false_iff,decide_eq_false_iff_not,List.any_eq_false,decide_eq_true_eq] at h
    refine⟨by omega,fun f hf=> ?_⟩
    have:=h.2 f hf
    omega
  generalize rqwC m t fs a=c1 at *
  generalize rqwC m2 t2 fs2 b=c2 at *
  generalize rqwT m t fs a=T1 at *
  generalize rqwT m2 t2 fs2 b=T2 at *
  (repeat' (first|refine And.intro ?_ ?_|intro _))
  all_goals try(subst hI;(simp only [nrmA,nrmB,nrlB,reduceCtorEq] at *);first
    |done
    |trivial
    |omega
    |exact hfs
    |exact hfs2
    |exact(hfs _ ‹_›).1
    |exact(hfs _ ‹_›).2
    |exact(hfs2 _ ‹_›).1
    |exact(hfs2 _ ‹_›).2
    |(have:=(hg fs ‹_›).1;omega)
    |(have:=(hg fs2 ‹_›).1;omega)
    |exact((hg fs ‹_›).2 _ ‹_›).1
    |exact((hg fs ‹_›).2 _ ‹_›).2
    |exact((hg fs2 ‹_›).2 _ ‹_›).1
    |exact((hg fs2 ‹_›).2 _ ‹_›).2
    |exact⟨⟨by omega,by omega⟩,⟨by have:=(hg fs ‹_›).1;omega,(hg fs ‹_›).2⟩,by omega⟩
    |exact⟨⟨by omega,by omega⟩,⟨by have:=(hg fs2 ‹_›).1;omega,(hg fs2 ‹_›).2⟩,by omega⟩
    |(rw [hT1 ‹_›];simp;done)
    |(rw [hT2 ‹_›];simp;done)
    |(have:=hT1 ‹_›;simp_all;done)
    |(have:=hT2 ‹_›;simp_all;done)
    |(have:=hl1 ‹_›;have:=hl2 ‹_›;omega)
    |(have:=hl1 ‹_›;have:=hl2 ‹_›;simp only [List.length_append];omega))
  have hx:sW fs=false∧sW fs2=false∧c1=0∧c2=0∧cs.length≤100:=by
    subst hI
    simp only [nrmA,nrmB,nrlB,reduceCtorEq] at *
    exact⟨‹_›,‹_›,by omega,by omega,by omega⟩
  obtain⟨hx1,hx2,rfl,rfl,hx5⟩:=hx
  obtain⟨w1,w2,w3⟩:=hok rfl rfl
  have hl1:=hl1 rfl
  have hl2:=hl2 rfl
  have hb1:=hb1 rfl
  have hb2:=hb2 rfl
  have hgs:=hg fs hx1
  have hgs2:=hg fs2 hx2
  have hTl:(T1++T2).length≤20000:=by rw [List.length_append];omega
  clear hok hT1 hT2 hg
  refine yw hI zu mixed [TV,TU,ze8,ze7,Xz,Xy,Wv,Wu,ZB,ZA,yS,yR,YB,YA,Zr,Zq,qM,qL,YD,YC,Wn,Wl,WG,WE] hX [2,3,5,6,15,16,17,18] (fun(g:Nat × Rq × List Evt × Str × List Str)=>match g with|(i,q,al,bb,L)=>bb=T1++T2∧L=pcs bb cs∧PcI bb L i q al) (fun(g:Nat × Rq × List Evt × Str × List Str)=>match g with|(i,q,al,bb,L)=>⟨[(2,.v (.one (.p (.list .byte a)))),(3,.v (.one (.p (.list .byte b)))),(5,.v (.one (.ptr 0 0))),(6,.v (.one (.ptr 1 0))),(15,.v (.one (.ptr 2 0))),(16,.v (.one (.row 3))),(17,.v (.one (.row 4))),(18,.v (.one (.p (.int .i64 i))))],[.pack [.obj 25 [(.p (.str m)),(.p (.str t)),(.p (.int .i64 mi)),(.p (.list .fld fs)),(.p (.int .i64 le))]],.pack [.obj 25 [(.p (.str m2)),(.p (.str t2)),(.p (.int .i64 mi2)),(.p (.list .fld fs2)),(.p (.int .i64 le2))]],.abs (.rq q),.row .evt 32 al,.row .bytes 22 L],192,none⟩) (fun(g:Nat × Rq × List Evt × Str × List Str)=>match g with|(i,q,al,bb,L)=>L.length - i) (0,rq0,[],I.app (I.hid T1) (I.hid T2),I.hid (pcs (I.app (I.hid T1) (I.hid T2)) cs)) (by kernel_rfl) (by kernel_rfl) ?_ ?_
  · refine⟨?_,?_,?_⟩
    · subst hI;rfl
    · subst hI;rfl
    · exact zke _ _
  rintro⟨i,q,al,bb,L⟩ ⟨hbb,hL,h1⟩ A hA
  simp only at hA hbb hL h1
  have hf:L.flatten=bb:=by rw [hL];exact zb5 cs bb
  have hLl:L.length=cs.length+1:=by rw [hL];exact ze0 cs bb
  rw [← hbb] at w1 w2 w3 hTl
  have hbbL:=And.intro hbb hL
  clear hL hbb
  have hlen: ∀ {i:Nat} {q:Rq} {al:List Evt},PcI bb L i q al→al.length≤8080000:=fun {i q al} h=>Nat.le_trans h.ln (Nat.mul_le_mul (show i≤101 by have:=h.le;omega) (show 4 * bb.length≤80000 by omega))
  have hal:=hlen h1
  have hsu:zO al≤1000000:=Nat.le_trans h1.su (by have:=tY L i;rw [hf] at this;omega)
  refine zh (let y0:=I.get (α:=Str) L ([]:Str) (Nat.cast i);let y1:HO:=.obj 25 [(.p (.str m2)),(.p (.str t2)),(.p (.int .i64 mi2)),(.p (.list .fld fs2)),(.p (.int .i64 le2))];let y2:HO:=.obj 25 [(.p (.str m)),(.p (.str t)),(.p (.int .i64 mi)),(.p (.list .fld fs)),(.p (.int .i64 le))];let y3:=I.hid (α:=(List Go.Ab.Evt)) (zD (Go.Ab.Rq.out (zF q y0)));let y4:=I.inb (Nat.cast i) (I.len (α:=Str) L);.br (I.ilt (Nat.cast i) (I.len (α:=Str) L)) (.need y4 (.need y4 (.need (I.hid (α:=(Prop)) (rqN0 q y0)) (.need (I.few (I.add (I.len (α:=Go.Ab.Evt) al) (I.len (α:=Go.Ab.Evt) y3)) 100000000) (.need (I.inr Go.IntKind.i64 (I.add (Nat.cast i) 1)) (.need (A ⟨[(2,(.v (.one (.p (.list .byte a))))),(3,(.v (.one (.p (.list .byte b))))),(5,(.v (.one (.ptr 0 0)))),(6,(.v (.one (.ptr 1 0)))),(15,(.v (.one (.ptr 2 0)))),(16,(.v (.one (.row 3)))),(17,(.v (.one (.row 4)))),(18,(.v (.one (.p (.int .i64 (I.add (Nat.cast i) 1))))))],[(.pack [y2]),(.pack [y1]),(.abs (.rq (I.hid (α:=Go.Ab.Rq) (zF q y0)))),(.row .evt 32 (I.app (α:=Go.Ab.Evt) al y3)),(.row .bytes 22 L)],192,none⟩) .qed)))))) (.code 1 [1,1,1,1,1,1,1,1,1,1,1,1,0,1,0] ⟨[(22,(.v (.one (.p (.int .i64 0))))),(21,(.v (.one (.row 7)))),(20,(.v (.one (.row 6)))),(19,(.v (.one (.row 5)))),(2,(.v (.one (.p (.list .byte a))))),(3,(.v (.one (.p (.list .byte b))))),(5,(.v (.one (.ptr 0 0)))),(6,(.v (.one (.ptr 1 0)))),(15,(.v (.one (.ptr 2 0)))),(16,(.v (.one (.row 3)))),(17,(.v (.one (.row 4)))),(18,(.v (.one (.p (.int .i64 (Nat.cast i))))))],[y2,y1,(.abs (.rq q)),(.row .evt 32 al),(.row .bytes 22 L),(.row .evt 32 ([]:List Go.Ab.Evt)),(.row .hd 25 ([(Hd.mk m t mi fs le),(Hd.mk m2 t2 mi2 fs2 le2)]:List Hd)),(.row .bytes 22 ([a,b]:List (Str)))],192,none⟩)) (by kernel_rfl) ?_
  simp only [zC]
  refine⟨fun cc=> ?_,fun cc=> ?_⟩
  · have hi:i<L.length:=by subst hI;(simp only [nrmA,nrmB,nrlB,reduceCtorEq] at *);omega
    have hneed:=zhc h1 hf hi hTl
    have hnx:=zkd h1 hf hi hTl
    have hln:al.length+(zD (zF q (L.getD i [])).out).length≤8080000:=by have:=hlen hnx;rw [List.length_append] at this;exact this
    have hgo:=hA (i+1,zF q (L.getD i []),al++zD (zF q (L.getD i [])).out,bb,L) ⟨hbbL.1,hbbL.2,hnx⟩ (by simp only;omega)
    subst hI
    simp only [nrmA,nrmB,nrlB,reduceCtorEq]
    generalize zF q (L.getD i [])=Q at *
    (repeat' (first|refine And.intro ?_ ?_|intro _))<;>first|omega|exact True.intro|exact False.elim ‹False›|skip
    all_goals first
      |omega
      |exact hneed
      |(have:=hgo;simp only [Int.natCast_add,Int.natCast_one] at this;exact this)
  · have hi:L.length=i:=by have:=h1.le;subst hI;(simp only [nrmA,nrmB,nrlB,reduceCtorEq] at *);omega
    have he:=ziw (show PcI bb L L.length q al by rw [hi];exact h1) hf
    have hfw:fewE (zD al):=ziT (Sr al [] h1.ob) (by have:=ZR al;omega)
    clear hA hlen h1
    refine yw hI zu mixed [TV,TU,ze8,ze7,Xz,Xy,Wv,Wu,ZB,ZA,yS,yR,YB,YA,Zr,Zq,qM,qL,YD,YC,Wn,Wl,WG,WE] hX [15,16,19,20,21,22] (fun(g:Nat × List Evt × List Hd × List Str)=>match g with|(j,wa,hl,bl)=>hl=[⟨m,t,mi,fs,le⟩,⟨m2,t2,mi2,fs2,le2⟩]∧bl=[a,b]∧j≤2∧wa=([wH m t fs a,wH m2 t2 fs2 b].take j).flatten) (fun(g:Nat × List Evt × List Hd × List Str)=>match g with|(j,wa,hl,bl)=>⟨[(15,.v (.one (.ptr 0 0))),(16,.v (.one (.row 1))),(19,.v (.one (.row 2))),(20,.v (.one (.row 3))),(21,.v (.one (.row 4))),(22,.v (.one (.p (.int .i64 j))))],[.abs (.rq q),.row .evt 32 al,.row .evt 32 wa,.row .hd 25 hl,.row .bytes 22 bl],192,none⟩) (fun(g:Nat × List Evt × List Hd × List Str)=>match g with|(j,wa,hl,bl)=>2 - j) (0,[],[⟨m,t,mi,fs,le⟩,⟨m2,t2,mi2,fs2,le2⟩],[a,b]) (by kernel_rfl) (by kernel_rfl) ?_ ?_
    · exact⟨rfl,rfl,by decide,rfl⟩
    rintro⟨j,wa,hl,bl⟩ ⟨j1,j2,j3,j4⟩ A hA
    simp only at hA j1 j2 j3 j4
    refine zh (let y0:=I.get (α:=Hd) hl (Hd.mk ([]:Str) ([]:Str) (0:Int) ([]:List Fld) (0:Int)) (Nat.cast j);let y6:=I.get (α:=Str) bl ([]:Str) (Nat.cast j);let y1:=I.len (α:=UInt8) y6;let y2:=([67,111,110,116,101,110,116,45,76,101,110,103,116,104]:Str);let y3:=I.len (α:=Go.Ab.Evt) (I.app (α:=Go.Ab.Evt) wa ([(Go.Ab.Evt.mk (1:Int) (Hd.mk (Hd.method y0) (Hd.target y0) (1:Int) (I.app (α:=Fld) (I.app (α:=Fld) ([]:List Fld) (Hd.fields y0)) ([(Fld.mk y2 (I.hid (α:=Str) (decS y1)))]:List Fld)) y1) ([]:Str) (Go.Ab.Prt.mk ([]:Str) ([]:Str) ([]:Str) ([]:Str)) (0:Int))]:List Go.Ab.Evt));let y4:=I.inb (Nat.cast j) (I.len (α:=Str) bl);let y5:=I.len (α:=Go.Ab.Evt) ([(Go.Ab.Evt.mk (3:Int) (Hd.mk ([]:Str) ([]:Str) (0:Int) ([]:List Fld) (0:Int)) ([]:Str) (Go.Ab.Prt.mk ([]:Str) ([]:Str) ([]:Str) ([]:Str)) (0:Int))]:List Go.Ab.Evt);let y7:=I.inr Go.IntKind.i64 (I.add (Nat.cast j) 1);let y8:=I.hid (α:=(List Go.Ab.Evt)) (zD al);let y9:=I.inb (Nat.cast j) (I.len (α:=Hd) hl);.br (I.ilt (Nat.cast j) 2) (.need y9 (.need y9 (.need y4 (.need y4 (.need y4 (.need y4 (.need (I.few (I.add (I.len (α:=Fld) ([]:List Fld)) (I.len (α:=Fld) (Hd.fields y0))) 100000000) (.need (I.hid (α:=(Prop)) (And (LE.le (0:Int) y1) (LT.lt y1 (1000000000:Int)))) (.need (I.few (I.add (I.len (α:=Fld) (I.app (α:=Fld) ([]:List Fld) (Hd.fields y0))) (I.len (α:=Fld) ([(Fld.mk y2 (I.hid (α:=Str) (decS y1)))]:List Fld))) 100000000) (.need (I.few (I.add (I.len (α:=Go.Ab.Evt) wa) (I.len (α:=Go.Ab.Evt) ([(Go.Ab.Evt.mk (1:Int) (Hd.mk (Hd.method y0) (Hd.target y0) (1:Int) (I.app (α:=Fld) (I.app (α:=Fld) ([]:List Fld) (Hd.fields y0)) ([(Fld.mk y2 (I.hid (α:=Str) (decS y1)))]:List Fld)) y1) ([]:Str) (Go.Ab.Prt.mk ([]:Str) ([]:Str) ([]:Str) ([]:Str)) (0:Int))]:List Go.Ab.Evt))) 100000000) (.need y4 (.need y4 (.br (I.ilt 0 y1) (.need y4 (.need y4 (.need (I.few (I.add y3 (I.len (α:=Go.Ab.Evt) ([(Go.Ab.Evt.mk (2:Int) (Hd.mk ([]:Str) ([]:Str) (0:Int) ([]:List Fld) (0:Int)) y6 (Go.Ab.Prt.mk ([]:Str) ([]:Str) ([]:Str) ([]:Str)) (0:Int))]:List Go.Ab.Evt))) 100000000) (.need (I.few (I.add (I.len (α:=Go.Ab.Evt) (I.app (α:=Go.Ab.Evt) (I.app (α:=Go.Ab.Evt) wa ([(Go.Ab.Evt.mk (1:Int) (Hd.mk (Hd.method y0) (Hd.target y0) (1:Int) (I.app (α:=Fld) (I.app (α:=Fld) ([]:List Fld) (Hd.fields y0)) ([(Fld.mk y2 (I.hid (α:=Str) (decS y1)))]:List Fld)) y1) ([]:Str) (Go.Ab.Prt.mk ([]:Str) ([]:Str) ([]:Str) ([]:Str)) (0:Int))]:List Go.Ab.Evt)) ([(Go.Ab.Evt.mk (2:Int) (Hd.mk ([]:Str) ([]:Str) (0:Int) ([]:List Fld) (0:Int)) y6 (Go.Ab.Prt.mk ([]:Str) ([]:Str) ([]:Str) ([]:Str)) (0:Int))]:List Go.Ab.Evt))) y5) 100000000) (.need y7 (.need (A ⟨[(15,(.v (.one (.ptr 0 0)))),(16,(.v (.one (.row 1)))),(19,(.v (.one (.row 2)))),(20,(.v (.one (.row 3)))),(21,(.v (.one (.row 4)))),(22,(.v (.one (.p (.int .i64 (I.add (Nat.cast j) 1))))))],[(.abs (.rq q)),(.row .evt 32 al),(.row .evt 32 (I.app (α:=Go.Ab.Evt) (I.app (α:=Go.Ab.Evt) (I.app (α:=Go.Ab.Evt) wa ([(Go.Ab.Evt.mk (1:Int) (Hd.mk (Hd.method y0) (Hd.target y0) (1:Int) (I.app (α:=Fld) (I.app (α:=Fld) ([]:List Fld) (Hd.fields y0)) ([(Fld.mk y2 (I.hid (α:=Str) (decS y1)))]:List Fld)) y1) ([]:Str) (Go.Ab.Prt.mk ([]:Str) ([]:Str) ([]:Str) ([]:Str)) (0:Int))]:List Go.Ab.Evt)) ([(Go.Ab.Evt.mk (2:Int) (Hd.mk ([]:Str) ([]:Str) (0:Int) ([]:List Fld) (0:Int)) y6 (Go.Ab.Prt.mk ([]:Str) ([]:Str) ([]:Str) ([]:Str)) (0:Int))]:List Go.Ab.Evt)) ([(Go.Ab.Evt.mk (3:Int) (Hd.mk ([]:Str) ([]:Str) (0:Int) ([]:List Fld) (0:Int)) ([]:Str) (Go.Ab.Prt.mk ([]:Str) ([]:Str) ([]:Str) ([]:Str)) (0:Int))]:List Go.Ab.Evt))),(.row .hd 25 hl),(.row .bytes 22 bl)],192,none⟩) .qed)))))) (.need (I.few (I.add y3 y5) 100000000) (.need y7 (.need (A ⟨[(15,(.v (.one (.ptr 0 0)))),(16,(.v (.one (.row 1)))),(19,(.v (.one (.row 2)))),(20,(.v (.one (.row 3)))),(21,(.v (.one (.row 4)))),(22,(.v (.one (.p (.int .i64 (I.add (Nat.cast j) 1))))))],[(.abs (.rq q)),(.row .evt 32 al),(.row .evt 32 (I.app (α:=Go.Ab.Evt) (I.app (α:=Go.Ab.Evt) wa ([(Go.Ab.Evt.mk (1:Int) (Hd.mk (Hd.method y0) (Hd.target y0) (1:Int) (I.app (α:=Fld) (I.app (α:=Fld) ([]:List Fld) (Hd.fields y0)) ([(Fld.mk y2 (I.hid (α:=Str) (decS y1)))]:List Fld)) y1) ([]:Str) (Go.Ab.Prt.mk ([]:Str) ([]:Str) ([]:Str) ([]:Str)) (0:Int))]:List Go.Ab.Evt)) ([(Go.Ab.Evt.mk (3:Int) (Hd.mk ([]:Str) ([]:Str) (0:Int) ([]:List Fld) (0:Int)) ([]:Str) (Go.Ab.Prt.mk ([]:Str) ([]:Str) ([]:Str) ([]:Str)) (0:Int))]:List Go.Ab.Evt))),(.row .hd 25 hl),(.row .bytes 22 bl)],192,none⟩) .qed)))))))))))))))) (.need (I.hid (α:=(Prop)) (And (LE.le (zO al) 1000000) (LE.le (List.length al) 10000000))) (.need (I.hid (α:=(Prop)) (And (fewE y8) (fewE wa))) (.br (I.hid (α:=Bool) (Decidable.decide (Eq y8 wa))) (.need (I.hid (α:=(Prop)) True) (.br (I.bnot (I.hid (α:=Bool) (xH q))) (.need (I.hid (α:=(Prop)) True) (.fin (.ret (.v (.one (.p (.bool (I.bnot (I.hid (α:=Bool) (Decidable.decide (Eq (Go.Ab.Rq.pos (I.hid (α:=Go.Ab.Rq) q)) (4:Int)))))))))) [])) (.fin (.ret (.v (.one (.p (.bool Bool.false))))) []))) (.fin (.ret (.v (.one (.p (.bool Bool.false))))) []))))) (by kernel_rfl) ?_
    simp only [zC]
    subst hI
    have hj2:j≤2:=j3
    have hfE:fewE (zD al)∧fewE (wH m t fs a++wH m2 t2 fs2 b):=by
      exact⟨hfw,by rw [← w1,← he.2];exact hfw⟩
    rcases(show j=0∨j=1∨j=2 by omega) with rfl|rfl|rfl
    · have hgo:=hA (1,wH m t fs a,[⟨m,t,mi,fs,le⟩,⟨m2,t2,mi2,fs2,le2⟩],[a,b]) ⟨rfl,rfl,by simp only;omega,by simp⟩ (by simp only;omega)
      subst j1 j2 j4
      simp only [nrmA,nrmB,nrlB,reduceCtorEq,List.getD_cons_zero,List.take_zero,List.flatten_nil,List.nil_append,List.length_cons,List.length_nil]
      (repeat' (first|refine And.intro ?_ ?_|intro _))<;>first|omega|exact True.intro|exact False.elim ‹False›|skip
      all_goals first
        |omega
        |exact⟨by omega,by omega⟩
        |(simp only [List.length_append,List.length_cons,List.length_nil];omega)
        |(rw [zdX (by omega)] at hgo;exact hgo)
        |(rw [zdY (by omega)] at hgo;exact hgo)
    · have hgo:=hA (2,wH m t fs a++wH m2 t2 fs2 b,[⟨m,t,mi,fs,le⟩,⟨m2,t2,mi2,fs2,le2⟩],[a,b]) ⟨rfl,rfl,by simp only;omega,by simp⟩ (by simp only;omega)
      have ht1:(List.take 1 [wH m t fs a,wH m2 t2 fs2 b]).flatten=wH m t fs a:=by simp
      rw [ht1] at j4
      subst j1 j2 j4
      have hwl:=zdZ m t fs a
      generalize wH m t fs a=wa at *
      simp only [nrmA,nrmB,nrlB,reduceCtorEq,List.getD_cons_zero,List.getD_cons_succ,List.nil_append,List.length_cons,List.length_nil]
      (repeat' (first|refine And.intro ?_ ?_|intro _))<;>first|omega|exact True.intro|exact False.elim ‹False›|skip
      all_goals first
        |omega
        |exact⟨by omega,by omega⟩
        |(simp only [List.length_append,List.length_cons,List.length_nil];omega)
        |(rw [zdX (by omega)] at hgo;simp only [List.append_assoc] at hgo ⊢;exact hgo)
        |(rw [zdY (by omega)] at hgo;simp only [List.append_assoc] at hgo ⊢;exact hgo)
    · have ht2:(List.take 2 [wH m t fs a,wH m2 t2 fs2 b]).flatten=wH m t fs a++wH m2 t2 fs2 b:=by simp
      rw [ht2] at j4
      have hb:=zgi he.1
      rw [w2] at hb
      have hq:decide (zD al=wa)=true:=decide_eq_true (by rw [he.2,w1,j4])
      rw [← j4] at hfE
      simp only [nrmA,nrmB,nrlB,reduceCtorEq]
      (repeat' (first|refine And.intro ?_ ?_|intro _))<;>first|omega|exact True.intro|exact False.elim ‹False›|skip
      all_goals first
        |omega
        |exact hfE.1.1
        |exact hfE.2.1
        |exact hfE.1.2 _ ‹_›
        |exact hfE.2.2 _ ‹_›
        |exact hsu
        |exact⟨hsu,by omega⟩
        |exact hq
        |exact hb.1
        |(rw [hb.2];exact w3)
        |exact absurd hq ‹_›
        |exact absurd hq (by simpa using ‹_=false›)
        |(simp_all;done)
end Go.Proofs.YtmibhbdfigpkmaaGreatDoor
