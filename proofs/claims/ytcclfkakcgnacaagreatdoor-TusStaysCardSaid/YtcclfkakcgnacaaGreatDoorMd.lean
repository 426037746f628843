/- Texts of this proof, one behind the other: ChrN Base SplL SplA SplB JrnL JrnA JrnB JrnC JrnG JrnP StoL StoA. -/
import Derived.Test.YtcclfkakcgnacaaGreatDoorMc
set_option linter.all false
namespace Go.Proofs.YtcclfkakcgnacaaGreatDoor
open Go Go.Sep Go.Ab
set_option maxRecDepth 100000
theorem zhd (s:Str):Spc Tryz.prog 19 [.v (.one (.p (.str s)))] [] (.ret (.tup [(.one (.p (.int .i64 ((numA s 10 9).1)))),(.one (.p (.bool ((numA s 10 9).2))))])) []:=by
  generalize hr:numA s 10 9=r
  refine spcG zi mixed Tryz.func19 (by kernel_rfl) { keep:=some [0,2,3,4,5]} [zg8,zg7,zeg,zef] (by kernel_rfl) ?_
  intro I X hI hX
  refine zh (.br (I.ilt (I.len (α:=UInt8) s) 1) (.fin (.ret (.tup [(.one (.p (.int .i64 0))),(.one (.p (.bool Bool.false)))])) []) (.br (I.ilt 9 (I.len (α:=UInt8) s)) (.fin (.ret (.tup [(.one (.p (.int .i64 0))),(.one (.p (.bool Bool.false)))])) []) (.code 0 [1,1,1,0,1,0] ⟨[(5,(.v (.one (.p (.int .i64 0))))),(4,(.v (.one (.p (.int .i64 0))))),(3,(.v (.one (.p (.val (.bool .false)))))),(2,(.v (.one (.p (.int .i64 0))))),(0,(.v (.one (.p (.str s)))))],[],33,none⟩))) (by kernel_rfl) ?_
  simp only [zl]
  have hne:s≠[]→¬ (9:Int)<s.length→numG 10 0 s=r:=fun h1 h2=>by rw [← hr,numA,if_neg (fun h=>by rcases h with h|h;exact h1 h;exact h2 h)]
  have hyes:(s=[]∨(9:Int)<s.length)→r=(0,false):=fun h=>by rw [← hr,numA,if_pos h]
  refine⟨fun c1=> ?_,fun c1=>⟨fun c2=> ?_,fun c2=> ?_⟩⟩
  · subst hI
    simp only [nrmA,nrmB] at c1
    rw [hyes (.inl (List.eq_nil_of_length_eq_zero (by omega)))]
    simp
  · subst hI
    simp only [nrmA,nrmB] at c2
    rw [hyes (.inr c2)]
    simp
  have d1:s≠[]:=by
    subst hI
    simp only [nrmA,nrmB] at c1
    rintro rfl
    simp at c1
  have d2:s.length≤9:=by
    subst hI
    simp only [nrmA,nrmB] at c2
    omega
  refine zA hI zi mixed [zg8,zg7,zeg,zef] hX [0,4,5] (fun(g:Nat × Int)=>match g with|(i,n)=>i≤s.length∧0≤n∧n≤top9 i∧numG 10 n (s.drop i)=r) (fun(g:Nat × Int)=>match g with|(i,n)=>⟨[(0,.v (.one (.p (.str s)))),(4,.v (.one (.p (.int .i64 n)))),(5,.v (.one (.p (.int .i64 i))))],[],33,none⟩) (fun(g:Nat × Int)=>match g with|(i,n)=>s.length - i) (0,0) (by kernel_rfl) (by kernel_rfl) ?_ ?_
  · exact⟨Nat.zero_le _,Int.le_refl _,Int.le_refl _,hne d1 (by omega)⟩
  rintro⟨i,n⟩ ⟨h1,h2,h3,h4⟩ A hA
  simp only at hA
  refine zh (let y0:=I.b2i (I.get (α:=UInt8) s 0 (Nat.cast i));let y1:=I.add (I.mul 10 n) (I.hid (α:=Int) (hexK y0));let y2:=I.inb (Nat.cast i) (I.len (α:=UInt8) s);.br (I.ilt (Nat.cast i) (I.len (α:=UInt8) s)) (.need y2 (.need (I.hid (α:=(Prop)) (And (LE.le (List.length (Array.toList (List.toArray ([48,49,50,51,52,53,54,55,56,57]:List UInt8)))) 1000000) (And (LE.le (0:Int) y0) (LE.le y0 (255:Int))))) (.br (I.bnot (I.hid (α:=Bool) (List.contains (Array.toList (List.toArray ([48,49,50,51,52,53,54,55,56,57]:List UInt8))) (UInt8.ofNat (Int.toNat y0))))) (.fin (.ret (.tup [(.one (.p (.int .i64 0))),(.one (.p (.bool Bool.false)))])) []) (.need (I.inr Go.IntKind.i64 (I.mul 10 n)) (.need y2 (.need (I.hid (α:=(Prop)) (And (LE.le (0:Int) y0) (LE.le y0 (255:Int)))) (.need (I.inr Go.IntKind.i64 y1) (.need (I.inr Go.IntKind.i64 (I.add (Nat.cast i) 1)) (.need (A ⟨[(0,(.v (.one (.p (.str s))))),(4,(.v (.one (.p (.int .i64 y1))))),(5,(.v (.one (.p (.int .i64 (I.add (Nat.cast i) 1))))))],[],33,none⟩) .qed))))))))) (.fin (.ret (.tup [(.one (.p (.int .i64 n))),(.one (.p (.bool Bool.true)))])) [])) (by kernel_rfl) ?_
  simp only [zl]
  subst hI
  simp only [nrmA,nrmB]
  have hb:=xu (s.getD i 0)
  have hk:=zcC hb
  have hdg:=zfH hb
  rw [Int.toNat_natCast,UInt8.ofNat_toNat] at hdg
  have hd:i<s.length→_:=fun h=>VU (base:=10) (n:=n) h
  have ht:i≤9:=by omega
  have ht:=zb1 ht
  have ht2:top9 (i+1)=16 * top9 i+15:=rfl
  generalize s.getD i 0=x at *
  try rw [hdg]
  generalize hexK (x.toNat:Int)=k at *
  simp only [Int.mul_comm 10 n,decide_eq_true_eq,decide_eq_false_iff_not]
  (repeat' (first|refine And.intro ?_ ?_|intro _))<;>first|omega|exact True.intro|exact False.elim ‹False›|skip
  all_goals first
    |omega
    |decide
    |(rw [← h4,hd (by omega),if_pos (by omega)])
    |(refine hA (i+1,_) ⟨by simp only;omega,by simp only;omega,by simp only;omega,?_⟩ (by simp only;omega);rw [← h4,hd (by omega),if_neg (by omega)])
    |(rw [← h4,List.drop_of_length_le (by omega)];rfl)
def su (I:Alg) (args:List D) (hp:List HO):Option CT:=match args,hp with
  |[.v (.one (.p (.str s)))],[]=>(fun(s:Str)=>(some (.one ⟨I.hid (True),(.ret (.tup [(.one (.p (.int .i64 (I.hid ((numA s 10 9).1))))),(.one (.p (.bool (I.hid ((numA s 10 9).2)))))])),[]⟩):Option CT)) s
  |_,_=>none
theorem VP:zo Tryz.prog 19 (su alg):=by
  intro args hp r h
  unfold su at h
  split at h
  · cases h;exact fun hn=>zhd _
  · cases h
def numberOf__k:Know Tryz.prog:=⟨19,su,VP⟩
def numberOf__l:Know Tryz.prog:=⟨19,fun I=>zu I (su I),zf VP⟩
theorem zj2 (s:Str):Spc Tryz.prog 83 [.v (.one (.p (.str s)))] [] (.ret (.tup [(.one (.p (.int .i64 ((numA s 10 9).1)))),(.one (.p (.bool ((numA s 10 9).2))))])) []:=by
  refine spcG zi mixed Tryz.func83 (by kernel_rfl) { keep:=some [0,2,3]} [Zw,Zv,zcn,zcm] (by kernel_rfl) ?_
  intro I X hI hX
  refine zh (.need (I.hid (α:=(Prop)) True) (.fin (.ret (.tup [(.one (.p (.int .i64 (I.hid (α:=Int) (Prod.fst (numA s (10:Int) (9:Int))))))),(.one (.p (.bool (I.hid (α:=Bool) (Prod.snd (numA s (10:Int) (9:Int)))))))])) [])) (by kernel_rfl) ?_
  simp only [zl]
  subst hI
  simp only [nrmA,nrmB]
  try trivial
def Ze (I:Alg) (args:List D) (hp:List HO):Option CT:=match args,hp with
  |[.v (.one (.p (.str s)))],[]=>(fun(s:Str)=>(some (.one ⟨I.hid (True),(.ret (.tup [(.one (.p (.int .i64 (I.hid ((numA s 10 9).1))))),(.one (.p (.bool (I.hid ((numA s 10 9).2)))))])),[]⟩):Option CT)) s
  |_,_=>none
theorem Sv:zo Tryz.prog 83 (Ze alg):=by
  intro args hp r h
  unfold Ze at h
  split at h
  · cases h;exact fun hn=>zj2 _
  · cases h
def Zd:Know Tryz.prog:=⟨83,Ze,Sv⟩
def Zc:Know Tryz.prog:=⟨83,fun I=>zu I (Ze I),zf Sv⟩
end Go.Proofs.YtcclfkakcgnacaaGreatDoor
namespace Go.Proofs.YtcclfkakcgnacaaGreatDoor
open Go Go.Sep Go.Ab
set_option maxRecDepth 100000
theorem znn (l:Str) (hneed:l.length≤100000000):Spc Tryz.prog 65 [.v (.one (.p (.list .byte l)))] [] (.ret (.v (.one (.row 0)))) [.row .byte 5 l]:=by
  refine spcG zi mixed Tryz.func65 (by kernel_rfl) { keep:=some [0,2]} [] (by kernel_rfl) ?_
  intro I X hI hX
  refine zh (let y0:=I.few (I.add (I.len (α:=UInt8) ([]:List UInt8)) (I.len (α:=UInt8) l)) 140737488355328;.br (I.ieq (I.len (α:=UInt8) l) 0) (.both (.fin (.ret (.v (.one (.row 0)))) [(.row .byte 5 ([]:List UInt8))]) (.need y0 (.fin (.ret (.v (.one (.row 0)))) [(.row .byte 5 (I.app (α:=UInt8) ([]:List UInt8) l))]))) (.need y0 (.fin (.ret (.v (.one (.row 0)))) [(.row .byte 5 (I.app (α:=UInt8) ([]:List UInt8) l))]))) (by kernel_rfl) ?_
  simp only [zl]
  subst hI
  dsimp only [alg]
  have h2:((([]:Str).length:Nat):Int)+((l.length:Nat):Int)≤140737488355328:=by simp;omega
  refine⟨fun h=>⟨⟨trivial,?_⟩,h2,trivial,rfl⟩,fun h=>⟨h2,trivial,rfl⟩⟩
  have:l=[]:=List.eq_nil_of_length_eq_zero (by have:=eq_of_beq h;omega)
  subst this;rfl
def Vb (I:Alg) (args:List D) (hp:List HO):Option CT:=match args,hp with
  |[.v (.one (.p (.list .byte l)))],[]=>(fun(l:Str)=>(some (.one ⟨I.hid (l.length≤100000000),(.ret (.v (.one (.row 0)))),[.row .byte 5 l]⟩):Option CT)) l
  |_,_=>none
theorem zeN:zo Tryz.prog 65 (Vb alg):=by
  intro args hp r h
  unfold Vb at h
  split at h
  · cases h;exact fun hn=>znn _ hn
  · cases h
def Va:Know Tryz.prog:=⟨65,Vb,zeN⟩
def W9:Know Tryz.prog:=⟨65,fun I=>zu I (Vb I),zf zeN⟩
theorem zfa (x y:Str):Spc Tryz.prog 16 [.v (.one (.p (.list .byte x))),.v (.one (.p (.list .byte y)))] [] (.ret (.v (.one (.p (.bool (x == y)))))) []:=by
  refine spcG zi mixed Tryz.func16 (by kernel_rfl) { keep:=some [0,1,4]} [] (by kernel_rfl) ?_
  intro I X hI hX
  refine zh (.fin (.ret (.v (.one (.p (.bool (I.seq x y)))))) []) (by kernel_rfl) ?_
  simp only [zl]
  subst hI
  exact⟨rfl,trivial⟩
def vJ (I:Alg) (args:List D) (hp:List HO):Option CT:=match args,hp with
  |[.v (.one (.p (.list .byte x))),.v (.one (.p (.list .byte y)))],[]=>(fun(x y:Str)=>(some (.one ⟨I.hid (True),(.ret (.v (.one (.p (.bool (I.hid (x == y))))))),[]⟩):Option CT)) x y
  |_,_=>none
theorem Xp:zo Tryz.prog 16 (vJ alg):=by
  intro args hp r h
  unfold vJ at h
  split at h
  · cases h;exact fun hn=>zfa _ _
  · cases h
def yO:Know Tryz.prog:=⟨16,vJ,Xp⟩
def yN:Know Tryz.prog:=⟨16,fun I=>zu I (vJ I),zf Xp⟩
end Go.Proofs.YtcclfkakcgnacaaGreatDoor
namespace Go.Proofs.YtcclfkakcgnacaaGreatDoor
open Go Go.Sep Go.Ab
def upl0:Upl:=⟨0,0,[],[],0⟩
def atU (l:List Upl) (id:Int):Nat:=l.findIdx fun u=>u.id == id
def zS (l:List Upl) (id:Int):Upl:=l.getD (atU l id) upl0
def zL:List Upl→Int
  |[]=>0
  |u::l=>u.bytes.length+zL l
def creC (l:List Upl) (size:Int) (m:Str):Int:=
  if size< -1 then 1 else if 2000<size∨100<m.length then 4 else if vG m=false∨¬ Lib.trimS m [32,9]=m then 3 else if l.length=12 then 8 else 0
def creL (l:List Upl) (n size:Int) (m:Str):List Upl:=if creC l size m=0 then l++[⟨n+1,size,m,[],0⟩] else l
def creN (l:List Upl) (n size:Int) (m:Str):Int:=if creC l size m=0 then n+1 else n
def creI (l:List Upl) (n size:Int) (m:Str):Int:=if creC l size m=0 then n+1 else 0
def appC (l:List Upl) (id off:Int) (b:Str):Int:=
  if l.length≤atU l id then 10
  else if ¬ (zS l id).sent=0 then 19
  else if ¬ off=(zS l id).bytes.length then 17
  else if 2000<(zS l id).bytes.length+b.length∨0≤(zS l id).size∧(zS l id).size<(zS l id).bytes.length+b.length then 4
  else if 6000<zL l+b.length then 16 else 0
def appL (l:List Upl) (id off:Int) (b:Str):List Upl:=if appC l id off b=0 then l.set (atU l id) { zS l id with bytes:=(zS l id).bytes++b} else l
def decC (l:List Upl) (id size:Int):Int:=
  if l.length≤atU l id then 10
  else if 0≤(zS l id).size then 18
  else if size<0 then 1
  else if 2000<size∨size<(zS l id).bytes.length then 4 else 0
def decL (l:List Upl) (id size:Int):List Upl:=if decC l id size=0 then l.set (atU l id) { zS l id with size:=size} else l
def droC (l:List Upl) (id:Int):Int:=if l.length≤atU l id then 10 else 0
def droL (l:List Upl) (id:Int):List Upl:=l.eraseIdx (atU l id)
def begC (l:List Upl) (id:Int):Int:=
  if l.length≤atU l id then 10
  else if ¬ (zS l id).sent=0 then 19
  else if ¬ (zS l id).size=(zS l id).bytes.length then 14 else 0
def begL (l:List Upl) (id:Int):List Upl:=if begC l id=0 then l.set (atU l id) { zS l id with sent:=1} else l
def endC (l:List Upl) (id:Int):Int:=
  if l.length≤atU l id then 10
  else if ¬ (zS l id).sent=1 then 19 else 0
def endL (l:List Upl) (id:Int):List Upl:=if endC l id=0 then l.set (atU l id) { zS l id with sent:=2} else l
structure znw (u:Upl):Prop where
  bl:u.bytes.length≤2000
  s1: -1≤u.size
  s2:u.size≤2000
  nl:u.note.length≤100
  bs:0≤u.size→(u.bytes.length:Int)≤u.size
  t0:0≤u.sent
  t2:u.sent≤2
  wh:u.sent≠0→u.size=u.bytes.length
structure zy (l:List Upl) (n:Int):Prop where
  n0:0≤n
  cnt:l.length≤12
  srt:l.Pairwise fun a b=>a.id<b.id
  ids: ∀ u ∈ l,1≤u.id∧u.id≤n
  each: ∀ u ∈ l,znw u
  tot:zL l≤6000
theorem tV:zy [] 0:=⟨by decide,by decide,List.Pairwise.nil,fun _ h=>by simp at h,fun _ h=>by simp at h,by decide⟩
theorem YL (l:List Upl) (id:Int):atU l id≤l.length:=List.findIdx_le_length
theorem xq {l:List Upl} {id:Int} (h:atU l id<l.length):zS l id=l[atU l id]:=by unfold zS;simp [h]
theorem wB {l:List Upl} {id:Int} (h:atU l id<l.length):zS l id ∈ l:=by rw [xq h];exact List.getElem_mem h
theorem ZJ {l:List Upl} {id:Int} (h:atU l id<l.length):(zS l id).id=id:=by
  rw [xq h]
  have h2:(l[atU l id].id == id)=true:=List.findIdx_getElem (p:=fun u:Upl=>u.id == id) (w:=h)
  simpa using h2
theorem zf5 (a b:List Upl):zL (a++b)=zL a+zL b:=by
  induction a with
  |nil=>simp [zL]
  |cons u a ih=>simp only [List.cons_append,zL,ih];omega
theorem xC: ∀ l:List Upl,0≤zL l
  |[]=>by decide
  |u::l=>by have:=xC l;simp only [zL];omega
theorem zf4: ∀ {l:List Upl} {u:Upl},u ∈ l→(u.bytes.length:Int)≤zL l
  | v::l,u,h=>by
    have:=xC l
    simp only [zL]
    rcases List.mem_cons.1 h with rfl|h
    · omega
    · have:=zf4 h;omega
theorem zah: ∀ {l:List Upl} {i:Nat} {u:Upl} (h:i<l.length),zL (l.set i u)=zL l - l[i].bytes.length+u.bytes.length
  |v::l,0,u,h=>by simp only [List.set_cons_zero,zL,List.getElem_cons_zero];omega
  | v::l,i+1,u,h=>by
    have:=zah (l:=l) (i:=i) (u:=u) (by simpa using h)
    simp only [List.set_cons_succ,zL,List.getElem_cons_succ,this];omega
theorem Vk: ∀ (l:List Upl) (i:Nat),zL (l.eraseIdx i)≤zL l
  |[],_=>by simp [zL]
  |v::l,0=>by simp only [List.eraseIdx_cons_zero,zL];omega
  |v::l,i+1=>by have:=Vk l i;simp only [List.eraseIdx_cons_succ,zL];omega
theorem Rh {l:List Upl} {n:Int} (h:zy l n) {i:Nat} (hi:i<l.length) {u:Upl} (hid:u.id=l[i].id) (hu:znw u) (ht:zL l - l[i].bytes.length+u.bytes.length≤6000):zy (l.set i u) n:=by
  refine⟨h.n0,by rw [List.length_set];exact h.cnt,?_,fun v hv=> ?_,fun v hv=> ?_,by rw [zah hi];exact ht⟩
  · have h1:=List.pairwise_map (f:=fun u:Upl=>u.id) (R:=(· < ·)) (l:=l)
    have h2:=List.pairwise_map (f:=fun u:Upl=>u.id) (R:=(· < ·)) (l:=l.set i u)
    rw [List.map_set,hid] at h2
    have e:(l.map fun u:Upl=>u.id).set i l[i].id=l.map fun u:Upl=>u.id:=by
      have:=List.set_getElem_self (show i<(l.map fun u:Upl=>u.id).length by simpa using hi)
      simpa using this
    rw [e] at h2
    exact h2.1 (h1.2 h.srt)
  · rcases List.mem_or_eq_of_mem_set hv with hv|rfl
    · exact h.ids v hv
    · rw [hid];exact h.ids _ (List.getElem_mem hi)
  · rcases List.mem_or_eq_of_mem_set hv with hv|rfl
    · exact h.each v hv
    · exact hu
theorem zni {l:List Upl} {n:Int} (h:zy l n) (size:Int) (m:Str):zy (creL l n size m) (creN l n size m):=by
  unfold creL creN
  split
  · rename_i hc
    unfold creC at hc
    split at hc
    · cases hc
    split at hc
    · cases hc
    split at hc
    · cases hc
    split at hc
    · cases hc
    have hcnt:=h.cnt
    have hn:=h.n0
    refine⟨by omega,by simp;omega,?_,fun u hu=> ?_,fun u hu=> ?_,?_⟩
    · rw [List.pairwise_append]
      refine⟨h.srt,by simp,fun a ha b hb=> ?_⟩
      simp only [List.mem_singleton] at hb
      subst hb
      have:=(h.ids a ha).2
      show a.id<n+1
      omega
    · rcases List.mem_append.1 hu with hu|hu
      · have:=h.ids u hu;omega
      · simp only [List.mem_singleton] at hu;subst hu;exact⟨by show 1≤n+1;omega,by show n+1≤n+1;omega⟩
    · rcases List.mem_append.1 hu with hu|hu
      · exact h.each u hu
      · simp only [List.mem_singleton] at hu;subst hu
        exact⟨by simp,by simp only;omega,by simp only;omega,by simp only;omega,fun _=>by simpa,by simp,by simp,fun h=>absurd rfl h⟩
    · rw [zf5];have:=h.tot;simp [zL];omega
  · exact h
theorem znt {l:List Upl} {n:Int} (h:zy l n) (id off:Int) (b:Str):zy (appL l id off b) n:=by
  unfold appL
  split
  · rename_i hc
    unfold appC at hc
    split at hc
    · cases hc
    rename_i h1
    have hi:atU l id<l.length:=by omega
    have hu:=h.each _ (wB hi)
    split at hc
    · cases hc
    split at hc
    · cases hc
    split at hc
    · cases hc
    split at hc
    · cases hc
    rename_i h2 h3 h4 h5
    refine Rh h hi (by show(zS l id).id=_;rw [xq hi]) ?_ ?_
    · refine⟨?_,hu.s1,hu.s2,hu.nl,?_,hu.t0,hu.t2,fun hs=>absurd (by simpa using h2) hs⟩
      · show((zS l id).bytes++b).length≤2000;rw [List.length_append];omega
      · intro hs;show((((zS l id).bytes++b).length:Nat):Int)≤(zS l id).size;rw [List.length_append]
        have hs:0≤(zS l id).size:=hs
        omega
    · show zL l - _+((((zS l id).bytes++b).length:Nat):Int)≤6000
      rw [List.length_append,← xq hi];omega
  · exact h
theorem zng {l:List Upl} {n:Int} (h:zy l n) (id size:Int):zy (decL l id size) n:=by
  unfold decL
  split
  · rename_i hc
    unfold decC at hc
    split at hc
    · cases hc
    rename_i h1
    have hi:atU l id<l.length:=by omega
    have hu:=h.each _ (wB hi)
    split at hc
    · cases hc
    split at hc
    · cases hc
    split at hc
    · cases hc
    rename_i h2 h3 h4
    refine Rh h hi (by show(zS l id).id=_;rw [xq hi]) ?_ ?_
    · refine⟨hu.bl,by show -1≤size;omega,by show size≤2000;omega,hu.nl,fun _=>by show(((zS l id).bytes.length:Nat):Int)≤size;omega,hu.t0,hu.t2,fun hs=> ?_⟩
      have:=hu.wh hs
      omega
    · show zL l - _+(((zS l id).bytes.length:Nat):Int)≤6000
      rw [← xq hi];have:=h.tot;omega
  · exact h
theorem zne {l:List Upl} {n:Int} (h:zy l n) (id:Int):zy (droL l id) n:=by
  unfold droL
  have hs:=List.eraseIdx_sublist l (atU l id)
  refine⟨h.n0,Nat.le_trans hs.length_le h.cnt,h.srt.sublist hs,fun u hu=>h.ids u (hs.subset hu),fun u hu=>h.each u (hs.subset hu),Int.le_trans (Vk _ _) h.tot⟩
theorem znr {l:List Upl} {n:Int} (h:zy l n) (id:Int):zy (begL l id) n:=by
  unfold begL
  split
  · rename_i hc
    unfold begC at hc
    split at hc
    · cases hc
    rename_i h1
    have hi:atU l id<l.length:=by omega
    have hu:=h.each _ (wB hi)
    split at hc
    · cases hc
    split at hc
    · cases hc
    rename_i h2 h3
    refine Rh h hi (by show(zS l id).id=_;rw [xq hi]) ⟨hu.bl,hu.s1,hu.s2,hu.nl,hu.bs,by show(0:Int)≤1;decide,by show(1:Int)≤2;decide,fun _=>by simpa using h3⟩ ?_
    show zL l - _+(((zS l id).bytes.length:Nat):Int)≤6000
    rw [← xq hi];have:=h.tot;omega
  · exact h
theorem znc {l:List Upl} {n:Int} (h:zy l n) (id:Int):zy (endL l id) n:=by
  unfold endL
  split
  · rename_i hc
    unfold endC at hc
    split at hc
    · cases hc
    rename_i h1
    have hi:atU l id<l.length:=by omega
    have hu:=h.each _ (wB hi)
    split at hc
    · cases hc
    rename_i h2
    refine Rh h hi (by show(zS l id).id=_;rw [xq hi]) ⟨hu.bl,hu.s1,hu.s2,hu.nl,hu.bs,by show(0:Int)≤2;decide,by show(2:Int)≤2;decide,fun _=>hu.wh (by simp only [Decidable.not_not] at h2;omega)⟩ ?_
    show zL l - _+(((zS l id).bytes.length:Nat):Int)≤6000
    rw [← xq hi];have:=h.tot;omega
  · exact h
theorem zof {l:List Upl} (h:l.Pairwise fun a b=>a.id<b.id) {i:Nat} (hi:i<l.length):atU l l[i].id=i:=by
  unfold atU
  rw [List.findIdx_eq hi]
  refine⟨by simp,fun j hj=> ?_⟩
  have:=List.pairwise_iff_getElem.1 h j i (by omega) hi hj
  simp only [beq_eq_false_iff_ne,ne_eq]
  omega
theorem zh2 {l:List Upl} (h:l.Pairwise fun a b=>a.id<b.id) (id:Int):(l.filter fun u=> !(u.id == id))=droL l id:=by
  induction l with
  |nil=>simp [droL]
  | cons u l ih=>
    have h:=List.pairwise_cons.1 h
    unfold droL atU at *
    rw [List.filter_cons,List.findIdx_cons]
    by_cases hu:u.id=id
    · have e:(u.id == id)=true:=by simpa using hu
      rw [e]
      simp only [Bool.not_true,Bool.false_eq_true,if_false,cond_true,List.eraseIdx_cons_zero]
      refine List.filter_eq_self.2 fun v hv=> ?_
      have:=h.1 v hv
      simp;omega
    · have e:(u.id == id)=false:=by simpa using hu
      rw [e]
      simp only [Bool.not_false,if_true,cond_false,List.eraseIdx_cons_succ,ih h.2]
end Go.Proofs.YtcclfkakcgnacaaGreatDoor
namespace Go.Proofs.YtcclfkakcgnacaaGreatDoor
open Go Go.Sep Go.Ab
set_option maxRecDepth 100000
theorem zmi (a b:Int) (m y:Str) (t d:Int):Spc Tryz.prog 98 [.v (.agg [(.p (.int .i64 a)),(.p (.int .i64 b)),(.p (.str m)),(.p (.list .byte y)),(.p (.int .i64 t))]),.v (.one (.ptr 0 0))] [.pack [.obj 3 [(.p (.int .i64 d))]]] (.ret (.v (.one (.p (.bool ((a == d))))))) [.pack [.obj 3 [(.p (.int .i64 d))]]]:=by
  refine spcG zi mixed Tryz.func98 (by kernel_rfl) { keep:=some [0,1,2,3]} [] (by kernel_rfl) ?_
  intro I X hI hX
  refine zh (.fin (.ret (.v (.one (.p (.bool (I.ieq a d)))))) [(.pack [(.obj 3 [(.p (.int .i64 d))])])]) (by kernel_rfl) ?_
  simp only [zl]
  subst hI
  simp only [nrmA,nrmB,nrlB,reduceCtorEq,HO.pack.injEq,HO.obj.injEq]
def X9 (I:Alg) (args:List D) (hp:List HO):Option CT:=match args,hp with
  |[.v (.agg [(.p (.int .i64 a)),(.p (.int .i64 b)),(.p (.str m)),(.p (.list .byte y)),(.p (.int .i64 t))]),.v (.one (.ptr 0 0))],[.pack [.obj 3 [(.p (.int .i64 d))]]]=>(fun(a b:Int) (m y:Str) (t d:Int)=>(some (.one ⟨I.hid (True),(.ret (.v (.one (.p (.bool (I.hid ((a == d)))))))),[.pack [.obj 3 [(.p (.int .i64 d))]]]⟩):Option CT)) a b m y t d
  |_,_=>none
theorem zdr:zo Tryz.prog 98 (X9 alg):=by
  intro args hp r h
  unfold X9 at h
  split at h
  · cases h;exact fun hn=>zmi _ _ _ _ _ _
  · cases h
def X8:Know Tryz.prog:=⟨98,X9,zdr⟩
def zdq:Know Tryz.prog:=⟨98,fun I=>zu I (X9 I),zf zdr⟩
def ixU (l:List Upl) (id:Int):Int:=if atU l id<l.length then(atU l id:Int) else -1
theorem QW {l:List Upl} {id:Int} {i:Nat} (h:i<l.length) (hp:i≤atU l id):(if(l.getD i upl0).id=id then atU l id=i else i+1≤atU l id):=by
  rw [show l.getD i upl0=l[i] by simp [h]]
  split
  · rename_i he
    rcases Nat.lt_or_ge i (atU l id) with h1|h1
    · have:=List.not_of_lt_findIdx (p:=fun u:Upl=>u.id == id) (xs:=l) (i:=i) h1
      simp [he] at this
    · omega
  · rename_i he
    rcases Nat.lt_or_ge i (atU l id) with h1|h1
    · omega
    · have e:atU l id=i:=by omega
      have h2:=ZJ (l:=l) (id:=id) (by omega)
      rw [xq (by omega)] at h2
      simp only [e] at h2
      exact absurd h2 he
theorem znH (l:List Upl) (d:Int) (hneed:l.length≤1000000):Spc Tryz.prog 97 [.v (.one (.p (.list .upl l))),.v (.one (.fn 98 [.ptr 0 0]))] [.pack [.obj 3 [(.p (.int .i64 d))]]] (.ret (.v (.one (.p (.int .i64 ((ixU l d))))))) [.pack [.obj 3 [(.p (.int .i64 d))]]]:=by
  refine spcG zi mixed Tryz.func97 (by kernel_rfl) { keep:=some [0,1,4,5,7,8]} [X8] (by kernel_rfl) ?_
  intro I X hI hX
  refine zh (.code 0 [1,0,1,0] ⟨[(8,(.v (.one (.p (.int .i64 0))))),(7,(.v (.one (.p (.int .i64 (I.len (α:=Go.Ab.Upl) l)))))),(4,(.v (.one (.p (.int .i64 0))))),(0,(.v (.one (.p (.list .upl l))))),(1,(.v (.one (.fn 98 [(.ptr 0 0)]))))],[(.pack [(.obj 3 [(.p (.int .i64 d))])])],19,none⟩) (by kernel_rfl) ?_
  simp only [zl]
  refine zA hI zi mixed [X8] hX [0,1,7,8] (fun(i:Nat)=>i≤l.length∧i≤atU l d) (fun(i:Nat)=>⟨[(0,.v (.one (.p (.list .upl l)))),(1,.v (.one (.fn 98 [.ptr 0 0]))),(7,.v (.one (.p (.int .i64 ((I.len (α:=Upl) l)))))),(8,.v (.one (.p (.int .i64 i))))],[.pack [.obj 3 [(.p (.int .i64 d))]]],19,none⟩) (fun(i:Nat)=>l.length - i) 0 (by kernel_rfl) (by kernel_rfl) ?_ ?_
  · exact⟨Nat.zero_le _,Nat.zero_le _⟩
  rintro i ⟨h1,h2⟩ A hA
  refine zh (let y0:=I.inb (Nat.cast i) (I.len (α:=Go.Ab.Upl) l);.br (I.ilt (Nat.cast i) (I.len (α:=Go.Ab.Upl) l)) (.need y0 (.need y0 (.need (I.hid (α:=(Prop)) True) (.br (I.hid (α:=Bool) (BEq.beq (Go.Ab.Upl.id (I.get (α:=Go.Ab.Upl) l (Go.Ab.Upl.mk (0:Int) (0:Int) ([]:List UInt8) ([]:List UInt8) (0:Int)) (Nat.cast i))) d)) (.fin (.ret (.v (.one (.p (.int .i64 (Nat.cast i)))))) [(.pack [(.obj 3 [(.p (.int .i64 d))])])]) (.need (I.inr Go.IntKind.i64 (I.add (Nat.cast i) 1)) (.need (A ⟨[(0,(.v (.one (.p (.list .upl l))))),(1,(.v (.one (.fn 98 [(.ptr 0 0)])))),(7,(.v (.one (.p (.int .i64 (I.len (α:=Go.Ab.Upl) l)))))),(8,(.v (.one (.p (.int .i64 (I.add (Nat.cast i) 1))))))],[(.pack [(.obj 3 [(.p (.int .i64 d))])])],19,none⟩) .qed)))))) (.fin (.ret (.v (.one (.p (.int .i64 (Neg.neg (1:Int))))))) [(.pack [(.obj 3 [(.p (.int .i64 d))])])])) (by kernel_rfl) ?_
  simp only [zl]
  subst hI
  simp only [nrmA,nrmB]
  have hx:=fun h=>QW (l:=l) (id:=d) (i:=i) h h2
  have hle:=YL l d
  have e0:(⟨0,0,[],[],0⟩:Upl)=upl0:=rfl
  simp only [e0]
  unfold ixU
  (repeat' (first|refine And.intro ?_ ?_|intro _))<;>first|omega|exact True.intro|exact False.elim ‹False›|skip
  all_goals first
    |(have h3:=hx (by omega);rw [if_pos (by assumption)] at h3;rw [if_pos (by omega),h3])
    |(have h3:=hx (by omega);rw [if_neg (by assumption)] at h3;exact hA (i+1) ⟨by omega,h3⟩ (by omega))
    |(rw [if_neg (by omega)])
def Ri (I:Alg) (args:List D) (hp:List HO):Option CT:=match args,hp with
  |[.v (.one (.p (.list .upl l))),.v (.one (.fn 98 [.ptr 0 0]))],[.pack [.obj 3 [(.p (.int .i64 d))]]]=>(fun(l:List Upl) (d:Int)=>(some (.one ⟨I.hid (l.length≤1000000),(.ret (.v (.one (.p (.int .i64 (I.hid ((ixU l d)))))))),[.pack [.obj 3 [(.p (.int .i64 d))]]]⟩):Option CT)) l d
  |_,_=>none
theorem zgw:zo Tryz.prog 97 (Ri alg):=by
  intro args hp r h
  unfold Ri at h
  split at h
  · cases h;exact fun hn=>znH _ _ hn
  · cases h
def YX:Know Tryz.prog:=⟨97,Ri,zgw⟩
def YW:Know Tryz.prog:=⟨97,fun I=>zu I (Ri I),zf zgw⟩
def sU:Cfg:= { sl:=[⟨90,0,.upl,some 67⟩,⟨50,0,.upl,some 67⟩]}
theorem ZC {l:List Upl} {id:Int} (h:atU l id<l.length):ixU l id=(atU l id:Int):=by unfold ixU;rw [if_pos h]
theorem ZE {l:List Upl} {id:Int} (h: ¬ atU l id<l.length):ixU l id= -1:=by unfold ixU;rw [if_neg h]
theorem znM (l:List Upl) (n id:Int) (hneed:l.length≤1000000∧atU l id<l.length):Spc Tryz.prog 66 [.v (.one (.ptr 0 0)),.v (.one (.p (.int .i64 id)))] [.obj 90 [(.row 1),(.p (.int .i64 n))],.row .upl 67 l] (.ret (.tup [(.one (.ept .upl 1 ((atU l id:Int)) 0)),(.one (.p (.int .i64 0)))])) [.obj 90 [(.row 1),(.p (.int .i64 n))],.row .upl 67 l]:=by
  obtain⟨h1,h2⟩:=hneed
  refine spcG zi mixed Tryz.func66 (by kernel_rfl) { flat:=true,keep:=some [0,1,3,4,5,6]} [X8,zdq,YX,YW] (by kernel_rfl) ?_
  intro I X hI hX
  refine zh (.need (I.hid (α:=(Prop)) (LE.le (List.length l) 1000000)) (.br (I.ilt (I.hid (α:=Int) (ixU l id)) 0) (.fin (.ret (.tup [(.one (.p (.val (.pointer .none)))),(.one (.p (.int .i64 10)))])) [(.obj 90 [(.row 1),(.p (.int .i64 n))]),(.row .upl 67 l)]) (.need (I.inb (I.hid (α:=Int) (ixU l id)) (I.len (α:=Go.Ab.Upl) l)) (.fin (.ret (.tup [(.one (.ept .upl 1 (I.hid (α:=Int) (ixU l id)) 0)),(.one (.p (.int .i64 0)))])) [(.obj 90 [(.row 1),(.p (.int .i64 n))]),(.row .upl 67 l)])))) (by kernel_rfl) ?_
  simp only [zl]
  subst hI
  simp only [nrmA,nrmB,ZC h2]
  (repeat' (first|refine And.intro ?_ ?_|intro _))<;>first|omega|exact True.intro|exact False.elim ‹False›|skip
theorem znL (l:List Upl) (n id:Int) (hneed:l.length≤1000000∧¬ atU l id<l.length):Spc Tryz.prog 66 [.v (.one (.ptr 0 0)),.v (.one (.p (.int .i64 id)))] [.obj 90 [(.row 1),(.p (.int .i64 n))],.row .upl 67 l] (.ret (.tup [(.one (.p (.val (.pointer none)))),(.one (.p (.int .i64 10)))])) [.obj 90 [(.row 1),(.p (.int .i64 n))],.row .upl 67 l]:=by
  obtain⟨h1,h2⟩:=hneed
  refine spcG zi mixed Tryz.func66 (by kernel_rfl) { flat:=true,keep:=some [0,1,3,4,5,6]} [X8,zdq,YX,YW] (by kernel_rfl) ?_
  intro I X hI hX
  refine zh (.need (I.hid (α:=(Prop)) (LE.le (List.length l) 1000000)) (.br (I.ilt (I.hid (α:=Int) (ixU l id)) 0) (.fin (.ret (.tup [(.one (.p (.val (.pointer .none)))),(.one (.p (.int .i64 10)))])) [(.obj 90 [(.row 1),(.p (.int .i64 n))]),(.row .upl 67 l)]) (.need (I.inb (I.hid (α:=Int) (ixU l id)) (I.len (α:=Go.Ab.Upl) l)) (.fin (.ret (.tup [(.one (.ept .upl 1 (I.hid (α:=Int) (ixU l id)) 0)),(.one (.p (.int .i64 0)))])) [(.obj 90 [(.row 1),(.p (.int .i64 n))]),(.row .upl 67 l)])))) (by kernel_rfl) ?_
  simp only [zl]
  subst hI
  simp only [nrmA,nrmB,ZE h2]
  (repeat' (first|refine And.intro ?_ ?_|intro _))<;>first|omega|exact True.intro|exact False.elim ‹False›|skip
def zdG (I:Alg) (args:List D) (hp:List HO):Option CT:=match args,hp with
  |[.v (.one (.ptr 0 0)),.v (.one (.p (.int .i64 id)))],[.obj 90 [(.row 1),(.p (.int .i64 n))],.row .upl 67 l]=>(fun(l:List Upl) (n id:Int)=>(some (.br (I.hid (decide (atU l id<l.length))) (.one ⟨I.hid (l.length≤1000000∧atU l id<l.length),(.ret (.tup [(.one (.ept .upl 1 (I.hid ((atU l id:Int))) 0)),(.one (.p (.int .i64 0)))])),[.obj 90 [(.row 1),(.p (.int .i64 n))],.row .upl 67 l]⟩) (.one ⟨I.hid (l.length≤1000000∧¬ atU l id<l.length),(.ret (.tup [(.one (.p (.val (.pointer none)))),(.one (.p (.int .i64 10)))])),[.obj 90 [(.row 1),(.p (.int .i64 n))],.row .upl 67 l]⟩)):Option CT)) l n id
  |_,_=>none
theorem zkc:zo Tryz.prog 66 (zdG alg):=by
  intro args hp r h
  unfold zdG at h
  split at h
  · cases h;exact⟨fun _ hn=>znM _ _ _ hn,fun _ hn=>znL _ _ _ hn⟩
  · cases h
def Tc:Know Tryz.prog:=⟨66,zdG,zkc⟩
def U9:Know Tryz.prog:=⟨66,fun I=>zu I (zdG I),zf zkc⟩
theorem zgG (l:List Upl) (n:Int) (hneed:zL l≤1000000∧l.length≤1000000):Spc Tryz.prog 103 [.v (.one (.ptr 0 0))] [.obj 90 [(.row 1),(.p (.int .i64 n))],.row .upl 67 l] (.ret (.v (.one (.p (.int .i64 ((zL l))))))) [.obj 90 [(.row 1),(.p (.int .i64 n))],.row .upl 67 l]:=by
  obtain⟨hu,hl⟩:=hneed
  refine spcG zi mixed Tryz.func103 (by kernel_rfl) { flat:=true,keep:=some [0,2,3,5,9,10,11]} [] (by kernel_rfl) ?_
  intro I X hI hX
  refine zh (.code 0 [1,1,0,1,0] ⟨[(11,(.v (.one (.p (.int .i64 0))))),(10,(.v (.one (.p (.int .i64 (I.len (α:=Go.Ab.Upl) l)))))),(9,(.v (.one (.row 1)))),(3,(.v (.one (.p (.int .i64 0))))),(2,(.v (.one (.p (.int .i64 0))))),(0,(.v (.one (.ptr 0 0))))],[(.obj 90 [(.row 1),(.p (.int .i64 n))]),(.row .upl 67 l)],22,none⟩) (by kernel_rfl) ?_
  simp only [zl]
  refine zA hI zi mixed [] hX [0,3,9,10,11] (fun(g:Nat × Int)=>match g with|(i,a)=>i≤l.length∧0≤a∧a+zL (l.drop i)=zL l) (fun(g:Nat × Int)=>match g with|(i,a)=>⟨[(0,.v (.one (.ptr 0 0))),(3,.v (.one (.p (.int .i64 a)))),(9,.v (.one (.row 1))),(10,.v (.one (.p (.int .i64 ((I.len (α:=Upl) l)))))),(11,.v (.one (.p (.int .i64 i))))],[.obj 90 [(.row 1),(.p (.int .i64 n))],.row .upl 67 l],22,none⟩) (fun(g:Nat × Int)=>match g with|(i,a)=>l.length - i) (0,0) (by kernel_rfl) (by kernel_rfl) ?_ ?_
  · exact⟨Nat.zero_le _,Int.le_refl _,by simp⟩
  rintro⟨i,a⟩ ⟨h1,h2,h3⟩ A hA
  simp only at hA
  refine zh (let y0:=I.add a (I.len (α:=UInt8) (Go.Ab.Upl.bytes (I.get (α:=Go.Ab.Upl) l (Go.Ab.Upl.mk (0:Int) (0:Int) ([]:List UInt8) ([]:List UInt8) (0:Int)) (Nat.cast i))));let y1:=I.inb (Nat.cast i) (I.len (α:=Go.Ab.Upl) l);.br (I.ilt (Nat.cast i) (I.len (α:=Go.Ab.Upl) l)) (.need y1 (.need y1 (.need (I.inr Go.IntKind.i64 y0) (.need (I.inr Go.IntKind.i64 (I.add (Nat.cast i) 1)) (.need (A ⟨[(0,(.v (.one (.ptr 0 0)))),(3,(.v (.one (.p (.int .i64 y0))))),(9,(.v (.one (.row 1)))),(10,(.v (.one (.p (.int .i64 (I.len (α:=Go.Ab.Upl) l)))))),(11,(.v (.one (.p (.int .i64 (I.add (Nat.cast i) 1))))))],[(.obj 90 [(.row 1),(.p (.int .i64 n))]),(.row .upl 67 l)],22,none⟩) .qed))))) (.fin (.ret (.v (.one (.p (.int .i64 a))))) [(.obj 90 [(.row 1),(.p (.int .i64 n))]),(.row .upl 67 l)])) (by kernel_rfl) ?_
  simp only [zl]
  subst hI
  simp only [nrmA,nrmB]
  have hd:i<l.length→zL (l.drop i)=(l.getD i ⟨0,0,[],[],0⟩).bytes.length+zL (l.drop (i+1)):=fun h=>by
    rw [List.drop_eq_getElem_cons h];simp [zL,h]
  have hn:=xC (l.drop (i+1))
  have hn0: ¬ i<l.length→zL (l.drop i)=0:=fun h=>by rw [List.drop_of_length_le (by omega)];rfl
  generalize l.getD i ⟨0,0,[],[],0⟩=x at *
  (repeat' (first|refine And.intro ?_ ?_|intro _))<;>first|omega|exact True.intro|exact False.elim ‹False›|skip
  all_goals first
    |(have:=hd (by omega);omega)
    |(have:=hd (by omega);refine hA (i+1,_) ⟨by simp only;omega,by simp only;omega,by simp only;omega⟩ (by simp only;omega))
    |(have:=hn0 (by omega);simp only [show a=zL l by omega])
def Z9 (I:Alg) (args:List D) (hp:List HO):Option CT:=match args,hp with
  |[.v (.one (.ptr 0 0))],[.obj 90 [(.row 1),(.p (.int .i64 n))],.row .upl 67 l]=>(fun(l:List Upl) (n:Int)=>(some (.one ⟨I.hid (zL l≤1000000∧l.length≤1000000),(.ret (.v (.one (.p (.int .i64 (I.hid ((zL l)))))))),[.obj 90 [(.row 1),(.p (.int .i64 n))],.row .upl 67 l]⟩):Option CT)) l n
  |_,_=>none
theorem zaA:zo Tryz.prog 103 (Z9 alg):=by
  intro args hp r h
  unfold Z9 at h
  split at h
  · cases h;exact fun hn=>zgG _ _ hn
  · cases h
def zgF:Know Tryz.prog:=⟨103,Z9,zaA⟩
def zgE:Know Tryz.prog:=⟨103,fun I=>zu I (Z9 I),zf zaA⟩
theorem zmm (l:List Upl) (n:Int) (hneed:zL l≤1000000∧l.length≤1000000):Spc Tryz.prog 103 [.v (.one (.ptr 0 0))] [.pack [.obj 90 [(.row 1),(.p (.int .i64 n))],.row .upl 67 l]] (.ret (.v (.one (.p (.int .i64 ((zL l))))))) [.pack [.obj 90 [(.row 1),(.p (.int .i64 n))],.row .upl 67 l]]:=
  Spc.packed (ex:=[]) (zgG l n hneed) rfl (by simp) rfl
def Wu (I:Alg) (args:List D) (hp:List HO):Option CT:=match args,hp with
  |[.v (.one (.ptr 0 0))],[.pack [.obj 90 [(.row 1),(.p (.int .i64 n))],.row .upl 67 l]]=>(fun(l:List Upl) (n:Int)=>(some (.one ⟨I.hid (zL l≤1000000∧l.length≤1000000),(.ret (.v (.one (.p (.int .i64 (I.hid ((zL l)))))))),[.pack [.obj 90 [(.row 1),(.p (.int .i64 n))],.row .upl 67 l]]⟩):Option CT)) l n
  |_,_=>none
theorem zdA:zo Tryz.prog 103 (Wu alg):=by
  intro args hp r h
  unfold Wu at h
  split at h
  · cases h;exact fun hn=>zmm _ _ hn
  · cases h
def zjj:Know Tryz.prog:=⟨103,Wu,zdA⟩
def zji:Know Tryz.prog:=⟨103,fun I=>zu I (Wu I),zf zdA⟩
theorem zn7 (n:Int) (hneed:0≤n∧n≤1000000):Spc Tryz.prog 132 [.v (.one .nilS),.v (.one (.p (.int .i64 n)))] [] (.ret (.v (.one (.row 0)))) [.row .byte 5 ([])]:=by
  refine spcG zi mixed Tryz.func132 (by kernel_rfl) { cut:=[0],keep:=some [0,1,4]} [] (by kernel_rfl) ?_
  intro I X hI hX
  refine zh (let y0:=I.rep (α:=UInt8) (I.sub n (I.sub 0 0)) (I.i2b 0);.br (I.ilt n 0) (.fin (.pan (.ifc 9 .false [(.str (Array.toList (List.toArray ([99,97,110,110,111,116,32,98,101,32,110,101,103,97,116,105,118,101]:List UInt8))))])) []) (.need (I.inr Go.IntKind.i64 (I.sub 0 0)) (.need (I.inr Go.IntKind.i64 (I.sub n (I.sub 0 0))) (.br (I.ilt 0 (I.sub n (I.sub 0 0))) (.need (I.cutb 0 0 0) (.need (I.inr Go.IntKind.u8 0) (.need (I.nng (I.sub n (I.sub 0 0))) (.need (I.few (I.sub n (I.sub 0 0)) 1000000) (.need (I.cutb 0 0 (I.len (α:=UInt8) y0)) (.need (I.same (α:=Int) 0 0) (.fin (.ret (.v (.one (.row 0)))) [(.row .byte 5 (I.cut (α:=UInt8) y0 0 0))]))))))) (.fin (.ret (.v (.one (.row 0)))) [(.row .byte 5 ([]:List UInt8))]))))) (by kernel_rfl) ?_
  simp only [zl]
  subst hI
  simp only [nrmA,nrmB,nrlB,reduceCtorEq]
  simp only [List.length_replicate,List.take_zero]
  (repeat' (first|refine And.intro ?_ ?_|intro _))<;>first|omega|exact True.intro|exact False.elim ‹False›|skip
  all_goals trivial
def Qx (I:Alg) (args:List D) (hp:List HO):Option CT:=match args,hp with
  |[.v (.one .nilS),.v (.one (.p (.int .i64 n)))],[]=>(fun(n:Int)=>(some (.one ⟨I.hid (0≤n∧n≤1000000),(.ret (.v (.one (.row 0)))),[.row .byte 5 (I.hid ([]))]⟩):Option CT)) n
  |_,_=>none
theorem zhS:zo Tryz.prog 132 (Qx alg):=by
  intro args hp r h
  unfold Qx at h
  split at h
  · cases h;exact fun hn=>zn7 _ hn
  · cases h
def zcE:Know Tryz.prog:=⟨132,Qx,zhS⟩
def zcD:Know Tryz.prog:=⟨132,fun I=>zu I (Qx I),zf zhS⟩
theorem zbp {ls:List Str} {i:Nat} (h:i<ls.length):(ls.take (i+1)).flatten=(ls.take i).flatten++ls.getD i []:=by
  rw [List.take_succ_eq_append_getElem h,List.flatten_append];simp [h]
theorem QA (ls:List Str) (i:Nat):(ls.take i).flatten.length≤ls.flatten.length:=by
  have:=congrArg (fun l:List Str=>l.flatten.length) (List.take_append_drop i ls)
  simp only [List.flatten_append,List.length_append] at this
  omega
theorem zlG (ls:List Str) (hneed:ls.flatten.length≤1000000∧ls.length≤1000):Spc Tryz.prog 104 [.v (.one (.p (.list .bytes ls)))] [] (.ret (.v (.one (.row 0)))) [.row .byte 5 ls.flatten]:=by
  obtain⟨hl,hk⟩:=hneed
  refine spcG zi mixed Tryz.func104 (by kernel_rfl) { nils:=[132],keep:=some [0,2,3,5,6,8,9,10,11,25,26,27]} [zcE,zcD] (by kernel_rfl) ?_
  intro I X hI hX
  refine zh (.code 0 [1,1,0,1,0] ⟨[(11,(.v (.one (.p (.int .i64 0))))),(10,(.v (.one (.p (.int .i64 (I.len (α:=(List UInt8)) ls)))))),(9,(.v (.one (.p (.list .bytes ls))))),(3,(.v (.one (.p (.int .i64 0))))),(2,(.v (.one .nilS))),(0,(.v (.one (.p (.list .bytes ls)))))],[],36,none⟩) (by kernel_rfl) ?_
  simp only [zl]
  refine zA hI zi mixed [zcE,zcD] hX [0,3,9,10,11] (fun(g:Nat × Int)=>match g with|(i,a)=>i≤ls.length∧a=(ls.take i).flatten.length) (fun(g:Nat × Int)=>match g with|(i,a)=>⟨[(0,.v (.one (.p (.list .bytes ls)))),(3,.v (.one (.p (.int .i64 a)))),(9,.v (.one (.p (.list .bytes ls)))),(10,.v (.one (.p (.int .i64 ((I.len (α:=List UInt8) ls)))))),(11,.v (.one (.p (.int .i64 i))))],[],36,none⟩) (fun(g:Nat × Int)=>match g with|(i,a)=>ls.length - i) (0,0) (by kernel_rfl) (by kernel_rfl) ?_ ?_
  · exact⟨Nat.zero_le _,by simp⟩
  rintro⟨i,a⟩ ⟨h1,h2⟩ A hA
  simp only at hA
  refine zh (let y0:=I.add a (I.len (α:=UInt8) (I.get (α:=(List UInt8)) ls ([]:List UInt8) (Nat.cast i)));let y1:=I.inb (Nat.cast i) (I.len (α:=(List UInt8)) ls);.br (I.ilt (Nat.cast i) (I.len (α:=(List UInt8)) ls)) (.need y1 (.need y1 (.need (I.inr Go.IntKind.i64 y0) (.br (I.ilt y0 0) (.fin (.pan (.ifc 9 .false [(.str (Array.toList (List.toArray ([108,101,110,32,111,117,116,32,111,102,32,114,97,110,103,101]:List UInt8))))])) []) (.need (I.inr Go.IntKind.i64 (I.add (Nat.cast i) 1)) (.need (A ⟨[(0,(.v (.one (.p (.list .bytes ls))))),(3,(.v (.one (.p (.int .i64 y0))))),(9,(.v (.one (.p (.list .bytes ls))))),(10,(.v (.one (.p (.int .i64 (I.len (α:=(List UInt8)) ls)))))),(11,(.v (.one (.p (.int .i64 (I.add (Nat.cast i) 1))))))],[],36,none⟩) .qed)))))) (.need (I.hid (α:=(Prop)) (And (LE.le (0:Int) a) (LE.le a (1000000:Int)))) (.code 1 [1,1,1,1,0,1,0] ⟨[(27,(.v (.one (.p (.int .i64 0))))),(26,(.v (.one (.p (.int .i64 (I.len (α:=(List UInt8)) ls)))))),(25,(.v (.one (.p (.list .bytes ls))))),(6,(.v (.one (.row 0)))),(0,(.v (.one (.p (.list .bytes ls))))),(3,(.v (.one (.p (.int .i64 a))))),(9,(.v (.one (.p (.list .bytes ls))))),(10,(.v (.one (.p (.int .i64 (I.len (α:=(List UInt8)) ls)))))),(11,(.v (.one (.p (.int .i64 (Nat.cast i))))))],[(.row .byte 5 (I.hid (α:=(List UInt8)) ([]:List UInt8)))],36,none⟩))) (by kernel_rfl) ?_
  simp only [zl]
  have hx:i<ls.length→_:=zbp (ls:=ls) (i:=i)
  have hy:=QA ls (i+1)
  have hz:=QA ls i
  refine⟨fun c1=> ?_,fun c1=>⟨?_,?_⟩⟩
  · subst hI
    simp only [nrmA,nrmB] at c1
    simp only [nrmA,nrmB]
    have hx:=congrArg List.length (hx (by omega))
    rw [List.length_append] at hx
    generalize ls.getD i []=x at *
    (repeat' (first|refine And.intro ?_ ?_|intro _))<;>first|omega|exact True.intro|exact False.elim ‹False›|skip
    exact hA (i+1,_) ⟨by simp only;omega,by simp only;omega⟩ (by simp only;omega)
  · subst hI
    simp only [nrmA,nrmB]
    omega
  · have hi:i=ls.length:=by
      subst hI
      simp only [nrmA,nrmB] at c1
      omega
    have hil:(I.hid ([]:Str))=[]:=by subst hI;rfl
    rw [hil]
    refine zA hI zi mixed [zcE,zcD] hX [6,25,26,27] (fun(g:Nat × Str)=>match g with|(j,o)=>j≤ls.length∧o=(ls.take j).flatten) (fun(g:Nat × Str)=>match g with|(j,o)=>⟨[(6,.v (.one (.row 0))),(25,.v (.one (.p (.list .bytes ls)))),(26,.v (.one (.p (.int .i64 ((I.len (α:=List UInt8) ls)))))),(27,.v (.one (.p (.int .i64 j))))],[.row .byte 5 o],36,none⟩) (fun(g:Nat × Str)=>match g with|(j,o)=>ls.length - j) (0,[]) (by kernel_rfl) (by kernel_rfl) ?_ ?_
    · exact⟨Nat.zero_le _,rfl⟩
    rintro⟨j,o⟩ ⟨k1,k2⟩ B hB
    simp only at hB
    refine zh (let y0:=I.get (α:=(List UInt8)) ls ([]:List UInt8) (Nat.cast j);let y1:=I.inb (Nat.cast j) (I.len (α:=(List UInt8)) ls);.br (I.ilt (Nat.cast j) (I.len (α:=(List UInt8)) ls)) (.need y1 (.need y1 (.need (I.few (I.add (I.len (α:=UInt8) o) (I.len (α:=UInt8) y0)) 140737488355328) (.need (I.inr Go.IntKind.i64 (I.add (Nat.cast j) 1)) (.need (B ⟨[(6,(.v (.one (.row 0)))),(25,(.v (.one (.p (.list .bytes ls))))),(26,(.v (.one (.p (.int .i64 (I.len (α:=(List UInt8)) ls)))))),(27,(.v (.one (.p (.int .i64 (I.add (Nat.cast j) 1))))))],[(.row .byte 5 (I.app (α:=UInt8) o y0))],36,none⟩) .qed))))) (.fin (.ret (.v (.one (.row 0)))) [(.row .byte 5 o)])) (by kernel_rfl) ?_
    simp only [zl]
    subst hI
    simp only [nrmA,nrmB,nrlB,reduceCtorEq]
    have hx:j<ls.length→_:=zbp (ls:=ls) (i:=j)
    have hy:=QA ls (j+1)
    have hz:=QA ls j
    have hw: ¬ j<ls.length→o=ls.flatten:=fun h=>by rw [k2,List.take_of_length_le (by omega)]
    rw [k2] at hw ⊢
    refine⟨fun c=> ?_,fun c=>hw (by omega)⟩
    have hx:=hx (by omega)
    rw [← hx]
    have hx2:=congrArg List.length hx
    rw [List.length_append] at hx2
    generalize ls.getD j []=x at *
    (repeat' (first|refine And.intro ?_ ?_|intro _))<;>first|omega|exact True.intro|exact False.elim ‹False›|skip
    exact hB (j+1,(ls.take (j+1)).flatten) ⟨by simp only;omega,rfl⟩ (by simp only;omega)
def YI (I:Alg) (args:List D) (hp:List HO):Option CT:=match args,hp with
  |[.v (.one (.p (.list .bytes ls)))],[]=>(fun(ls:List Str)=>(some (.one ⟨I.hid (ls.flatten.length≤1000000∧ls.length≤1000),(.ret (.v (.one (.row 0)))),[.row .byte 5 ls.flatten]⟩):Option CT)) ls
  |_,_=>none
theorem zbG:zo Tryz.prog 104 (YI alg):=by
  intro args hp r h
  unfold YI at h
  split at h
  · cases h;exact fun hn=>zlG _ hn
  · cases h
def zir:Know Tryz.prog:=⟨104,YI,zbG⟩
def ziq:Know Tryz.prog:=⟨104,fun I=>zu I (YI I),zf zbG⟩
theorem xU {l:List Upl} {n:Int} (h:zy l n):l.length≤1000000∧zL l≤1000000:=by
  have:=h.cnt;have:=h.tot;omega
theorem zjm (l:List Upl) (n size:Int) (m:Str) (hneed:zy l n∧n≤1000000∧m.length≤1000000):Spc Tryz.prog 71 [.v (.one (.ptr 0 0)),.v (.one (.p (.int .i64 size))),.v (.one (.p (.str m)))] [.pack [.obj 90 [(.row 1),(.p (.int .i64 n))],.row .upl 67 l]] (.ret (.tup [(.one (.p (.int .i64 ((creI l n size m))))),(.one (.p (.int .i64 ((creC l size m)))))])) [.pack [.obj 90 [(.row 1),(.p (.int .i64 ((creN l n size m))))],.row .upl 67 ((creL l n size m))]]:=by
  obtain⟨hs,hn,hm⟩:=hneed
  have hc:=hs.cnt
  have h0:=hs.n0
  generalize hi:creI l n size m=ri
  generalize he:creC l size m=re
  generalize hl:creL l n size m=rl
  generalize hN:creN l n size m=rn
  refine spcG zi mixed Tryz.func71 (by kernel_rfl) { sU with keep:=some [0,1,2,6,7]} [Xz,Xy,zj1,zj0] (by kernel_rfl) ?_
  intro I X hI hX
  refine zh (let y0:=I.few (I.add (I.len (α:=Go.Ab.Upl) l) (I.len (α:=Go.Ab.Upl) ([(Go.Ab.Upl.mk (I.add n 1) size m ([]:List UInt8) (0:Int))]:List Go.Ab.Upl))) 100000000;.br (I.ilt size (Neg.neg (1:Int))) (.fin (.ret (.tup [(.one (.p (.int .i64 0))),(.one (.p (.int .i64 1)))])) [(.pack [(.obj 90 [(.row 1),(.p (.int .i64 n))]),(.row .upl 67 l)])]) (.br (I.ilt 2000 size) (.fin (.ret (.tup [(.one (.p (.int .i64 0))),(.one (.p (.int .i64 4)))])) [(.pack [(.obj 90 [(.row 1),(.p (.int .i64 n))]),(.row .upl 67 l)])]) (.br (I.ilt 100 (I.len (α:=UInt8) m)) (.fin (.ret (.tup [(.one (.p (.int .i64 0))),(.one (.p (.int .i64 4)))])) [(.pack [(.obj 90 [(.row 1),(.p (.int .i64 n))]),(.row .upl 67 l)])]) (.need (I.hid (α:=(Prop)) (LE.le (List.length m) 1000000)) (.br (I.bnot (I.hid (α:=Bool) (vG m))) (.fin (.ret (.tup [(.one (.p (.int .i64 0))),(.one (.p (.int .i64 3)))])) [(.pack [(.obj 90 [(.row 1),(.p (.int .i64 n))]),(.row .upl 67 l)])]) (.need (I.hid (α:=(Prop)) True) (.br (I.bnot (I.seq (I.hid (α:=(List UInt8)) (Go.Lib.trimS m ([32,9]:List UInt8))) m)) (.fin (.ret (.tup [(.one (.p (.int .i64 0))),(.one (.p (.int .i64 3)))])) [(.pack [(.obj 90 [(.row 1),(.p (.int .i64 n))]),(.row .upl 67 l)])]) (.br (I.ieq (I.len (α:=Go.Ab.Upl) l) 12) (.fin (.ret (.tup [(.one (.p (.int .i64 0))),(.one (.p (.int .i64 8)))])) [(.pack [(.obj 90 [(.row 1),(.p (.int .i64 n))]),(.row .upl 67 l)])]) (.need (I.inr Go.IntKind.i64 (I.add n 1)) (.both (.need y0 (.fin (.ret (.tup [(.one (.p (.int .i64 (I.add n 1)))),(.one (.p (.int .i64 0)))])) [(.pack [(.obj 90 [(.row 1),(.p (.int .i64 (I.add n 1)))]),(.row .upl 67 (I.app (α:=Go.Ab.Upl) l ([(Go.Ab.Upl.mk (I.add n 1) size m ([]:List UInt8) (0:Int))]:List Go.Ab.Upl)))])])) (.both (.need y0 (.fin (.ret (.tup [(.one (.p (.int .i64 (I.add n 1)))),(.one (.p (.int .i64 0)))])) [(.pack [(.obj 90 [(.row 1),(.p (.int .i64 (I.add n 1)))]),(.row .upl 67 (I.app (α:=Go.Ab.Upl) l ([(Go.Ab.Upl.mk (I.add n 1) size m ([]:List UInt8) (0:Int))]:List Go.Ab.Upl)))])])) (.need y0 (.fin (.ret (.tup [(.one (.p (.int .i64 (I.add n 1)))),(.one (.p (.int .i64 0)))])) [(.pack [(.obj 90 [(.row 1),(.p (.int .i64 (I.add n 1)))]),(.row .upl 67 (I.app (α:=Go.Ab.Upl) l ([(Go.Ab.Upl.mk (I.add n 1) size m ([]:List UInt8) (0:Int))]:List Go.Ab.Upl)))])]))))))))))))) (by kernel_rfl) ?_
  simp only [zl]
  subst hI
  simp only [nrmA,nrmB,nrlB,reduceCtorEq,HO.pack.injEq,HO.obj.injEq]
  unfold creI at hi
  unfold creL at hl
  unfold creN at hN
  rw [he] at hi hl hN
  unfold creC at he
  simp only [List.length_cons,List.length_nil]
  (repeat' (first|refine And.intro ?_ ?_|intro _))<;>first|omega|exact True.intro|exact False.elim ‹False›|skip
  all_goals((repeat(first|rewrite [if_pos (by first|omega|assumption|(simp only [*,or_self,or_true,true_or,or_false,false_or,not_true_eq_false,not_false_eq_true,Bool.false_eq_true,Bool.true_eq_false,and_self,and_true,true_and];done)|(simp only [*];omega)|(simp [*];done)|(simp [*];omega))] at he|rewrite [if_neg (by first|omega|assumption|(simp only [*,or_self,or_true,true_or,or_false,false_or,not_true_eq_false,not_false_eq_true,Bool.false_eq_true,Bool.true_eq_false,and_self,and_true,true_and];done)|(simp only [*];omega)|(simp [*];done)|(simp [*];omega))] at he));subst he;((repeat(first|rewrite [if_pos (by first|omega|assumption|(simp only [*,or_self,or_true,true_or,or_false,false_or,not_true_eq_false,not_false_eq_true,Bool.false_eq_true,Bool.true_eq_false,and_self,and_true,true_and];done)|(simp only [*];omega)|(simp [*];done)|(simp [*];omega))] at hi|rewrite [if_neg (by first|omega|assumption|(simp only [*,or_self,or_true,true_or,or_false,false_or,not_true_eq_false,not_false_eq_true,Bool.false_eq_true,Bool.true_eq_false,and_self,and_true,true_and];done)|(simp only [*];omega)|(simp [*];done)|(simp [*];omega))] at hi)));((repeat(first|rewrite [if_pos (by first|omega|assumption|(simp only [*,or_self,or_true,true_or,or_false,false_or,not_true_eq_false,not_false_eq_true,Bool.false_eq_true,Bool.true_eq_false,and_self,and_true,true_and];done)|(simp only [*];omega)|(simp [*];done)|(simp [*];omega))] at hl|rewrite [if_neg (by first|omega|assumption|(simp only [*,or_self,or_true,true_or,or_false,false_or,not_true_eq_false,not_false_eq_true,Bool.false_eq_true,Bool.true_eq_false,and_self,and_true,true_and];done)|(simp only [*];omega)|(simp [*];done)|(simp [*];omega))] at hl)));((repeat(first|rewrite [if_pos (by first|omega|assumption|(simp only [*,or_self,or_true,true_or,or_false,false_or,not_true_eq_false,not_false_eq_true,Bool.false_eq_true,Bool.true_eq_false,and_self,and_true,true_and];done)|(simp only [*];omega)|(simp [*];done)|(simp [*];omega))] at hN|rewrite [if_neg (by first|omega|assumption|(simp only [*,or_self,or_true,true_or,or_false,false_or,not_true_eq_false,not_false_eq_true,Bool.false_eq_true,Bool.true_eq_false,and_self,and_true,true_and];done)|(simp only [*];omega)|(simp [*];done)|(simp [*];omega))] at hN)));subst hi;subst hl;subst hN;first|rfl|omega)
def qL (I:Alg) (args:List D) (hp:List HO):Option CT:=match args,hp with
  |[.v (.one (.ptr 0 0)),.v (.one (.p (.int .i64 size))),.v (.one (.p (.str m)))],[.pack [.obj 90 [(.row 1),(.p (.int .i64 n))],.row .upl 67 l]]=>(fun(l:List Upl) (n size:Int) (m:Str)=>(some (.one ⟨I.hid (zy l n∧n≤1000000∧m.length≤1000000),(.ret (.tup [(.one (.p (.int .i64 (I.hid ((creI l n size m)))))),(.one (.p (.int .i64 (I.hid ((creC l size m))))))])),[.pack [.obj 90 [(.row 1),(.p (.int .i64 (I.hid ((creN l n size m)))))],.row .upl 67 (I.hid ((creL l n size m)))]]⟩):Option CT)) l n size m
  |_,_=>none
theorem U8:zo Tryz.prog 71 (qL alg):=by
  intro args hp r h
  unfold qL at h
  split at h
  · cases h;exact fun hn=>zjm _ _ _ _ hn
  · cases h
def zfc:Know Tryz.prog:=⟨71,qL,U8⟩
def zfb:Know Tryz.prog:=⟨71,fun I=>zu I (qL I),zf U8⟩
theorem zjq (l:List Upl) (n id off:Int) (b:Str) (hneed:zy l n∧b.length≤1000000):Spc Tryz.prog 72 [.v (.one (.ptr 0 0)),.v (.one (.p (.int .i64 id))),.v (.one (.p (.int .i64 off))),.v (.one (.p (.list .byte b)))] [.pack [.obj 90 [(.row 1),(.p (.int .i64 n))],.row .upl 67 l]] (.ret (.v (.one (.p (.int .i64 ((appC l id off b))))))) [.pack [.obj 90 [(.row 1),(.p (.int .i64 n))],.row .upl 67 ((appL l id off b))]]:=by
  obtain⟨hs,hb⟩:=hneed
  have hf:=xU hs
  generalize he:appC l id off b=re
  generalize hl:appL l id off b=rl
  refine spcG zi mixed Tryz.func72 (by kernel_rfl) { sU with bare:=[66,103],keep:=some [0,1,2,3,8,9,10,11]} [Tc,U9,zgF,zgE,zjj,zji,zir,ziq] (by kernel_rfl) ?_
  intro I X hI hX
  refine zh (let y0:=I.get (α:=Go.Ab.Upl) l (Go.Ab.Upl.mk (0:Int) (0:Int) ([]:List UInt8) ([]:List UInt8) (0:Int)) (I.hid (α:=Int) (Nat.cast (atU l id)));let y1:=I.inb (I.hid (α:=Int) (Nat.cast (atU l id))) (I.len (α:=Go.Ab.Upl) l);let y2:=I.set (α:=Go.Ab.Upl) l (I.hid (α:=Int) (Nat.cast (atU l id))) (Go.Ab.Upl.mk (Go.Ab.Upl.id y0) (Go.Ab.Upl.size y0) (Go.Ab.Upl.note y0) (List.flatten ([(Go.Ab.Upl.bytes y0),b]:List (List UInt8))) (Go.Ab.Upl.sent y0));let y3:=I.hid (α:=(Prop)) (And (LE.le (List.length (List.flatten ([(Go.Ab.Upl.bytes y0),b]:List (List UInt8)))) 1000000) (LE.le (List.length ([(Go.Ab.Upl.bytes y0),b]:List (List UInt8))) 1000));let y4:=I.len (α:=UInt8) (Go.Ab.Upl.bytes y0);let y5:=I.sub 6000 (I.hid (α:=Int) (zL l));let y6:=I.hid (α:=(Prop)) (And (LE.le (zL l) (1000000:Int)) (LE.le (List.length l) 1000000));.br (I.hid (α:=Bool) (Decidable.decide (LT.lt (atU l id) (List.length l)))) (.need (I.hid (α:=(Prop)) (And (LE.le (List.length l) 1000000) (LT.lt (atU l id) (List.length l)))) (.br (I.bnot (I.ieq 0 0)) (.fin (.ret (.v (.one (.p (.int .i64 0))))) [(.pack [(.obj 90 [(.row 1),(.p (.int .i64 n))]),(.row .upl 67 l)])]) (.need y1 (.br (I.bnot (I.ieq (Go.Ab.Upl.sent y0) 0)) (.fin (.ret (.v (.one (.p (.int .i64 19))))) [(.pack [(.obj 90 [(.row 1),(.p (.int .i64 n))]),(.row .upl 67 l)])]) (.need y1 (.br (I.bnot (I.ieq off y4)) (.fin (.ret (.v (.one (.p (.int .i64 17))))) [(.pack [(.obj 90 [(.row 1),(.p (.int .i64 n))]),(.row .upl 67 l)])]) (.need y1 (.need (I.inr Go.IntKind.i64 (I.sub 2000 y4)) (.br (I.ilt (I.sub 2000 y4) (I.len (α:=UInt8) b)) (.fin (.ret (.v (.one (.p (.int .i64 4))))) [(.pack [(.obj 90 [(.row 1),(.p (.int .i64 n))]),(.row .upl 67 l)])]) (.need y1 (.br (I.ile 0 (Go.Ab.Upl.size y0)) (.need y1 (.need y1 (.need (I.inr Go.IntKind.i64 (I.sub (Go.Ab.Upl.size y0) y4)) (.br (I.ilt (I.sub (Go.Ab.Upl.size y0) y4) (I.len (α:=UInt8) b)) (.fin (.ret (.v (.one (.p (.int .i64 4))))) [(.pack [(.obj 90 [(.row 1),(.p (.int .i64 n))]),(.row .upl 67 l)])]) (.need y6 (.need (I.inr Go.IntKind.i64 y5) (.br (I.ilt y5 (I.len (α:=UInt8) b)) (.fin (.ret (.v (.one (.p (.int .i64 16))))) [(.pack [(.obj 90 [(.row 1),(.p (.int .i64 n))]),(.row .upl 67 l)])]) (.need y1 (.need y3 (.need y1 (.fin (.ret (.v (.one (.p (.int .i64 0))))) [(.pack [(.obj 90 [(.row 1),(.p (.int .i64 n))]),(.row .upl 67 y2)])]))))))))))) (.need y6 (.need (I.inr Go.IntKind.i64 y5) (.br (I.ilt y5 (I.len (α:=UInt8) b)) (.fin (.ret (.v (.one (.p (.int .i64 16))))) [(.pack [(.obj 90 [(.row 1),(.p (.int .i64 n))]),(.row .upl 67 l)])]) (.need y1 (.need y3 (.need y1 (.fin (.ret (.v (.one (.p (.int .i64 0))))) [(.pack [(.obj 90 [(.row 1),(.p (.int .i64 n))]),(.row .upl 67 y2)])])))))))))))))))))) (.need (I.hid (α:=(Prop)) (And (LE.le (List.length l) 1000000) (Not (LT.lt (atU l id) (List.length l))))) (.br (I.bnot (I.ieq 10 0)) (.fin (.ret (.v (.one (.p (.int .i64 10))))) [(.pack [(.obj 90 [(.row 1),(.p (.int .i64 n))]),(.row .upl 67 l)])]) (.stop 0)))) (by kernel_rfl) ?_
  simp only [zl]
  subst hI
  simp only [nrmA,nrmB,nrlB,reduceCtorEq,HO.pack.injEq,HO.obj.injEq]
  unfold appL at hl
  rw [he] at hl
  unfold appC at he
  unfold zS upl0 at he hl
  simp only [List.flatten_cons,List.flatten_nil,List.append_nil,List.length_append,List.length_cons,List.length_nil]
  have hx:atU l id<l.length→_:=fun h=>hs.each _ (wB h)
  unfold zS upl0 at hx
  generalize l.getD (atU l id) ⟨0,0,[],[],0⟩=x at *
  have hu0:=xC l
  have hb1:=fun h=>(hx h).bl
  have hb2:=fun h=>(hx h).s1
  have hb3:=fun h=>(hx h).s2
  (repeat' (first|refine And.intro ?_ ?_|intro _))<;>first|omega|exact True.intro|exact False.elim ‹False›|skip
  all_goals first
    |(have:=hb1 (by omega);have:=hb2 (by omega);have:=hb3 (by omega);omega)
    |exact hf.1
    |exact hf.2
    |((repeat(first|rewrite [if_pos (by first|omega|assumption|(simp only [*,or_self,or_true,true_or,or_false,false_or,not_true_eq_false,not_false_eq_true,Bool.false_eq_true,Bool.true_eq_false,and_self,and_true,true_and];done)|(simp only [*];omega)|(simp [*];done)|(simp [*];omega))] at he|rewrite [if_neg (by first|omega|assumption|(simp only [*,or_self,or_true,true_or,or_false,false_or,not_true_eq_false,not_false_eq_true,Bool.false_eq_true,Bool.true_eq_false,and_self,and_true,true_and];done)|(simp only [*];omega)|(simp [*];done)|(simp [*];omega))] at he));subst he;((repeat(first|rewrite [if_pos (by first|omega|assumption|(simp only [*,or_self,or_true,true_or,or_false,false_or,not_true_eq_false,not_false_eq_true,Bool.false_eq_true,Bool.true_eq_false,and_self,and_true,true_and];done)|(simp only [*];omega)|(simp [*];done)|(simp [*];omega))] at hl|rewrite [if_neg (by first|omega|assumption|(simp only [*,or_self,or_true,true_or,or_false,false_or,not_true_eq_false,not_false_eq_true,Bool.false_eq_true,Bool.true_eq_false,and_self,and_true,true_and];done)|(simp only [*];omega)|(simp [*];done)|(simp [*];omega))] at hl)));subst hl;first|rfl|omega)
def qM (I:Alg) (args:List D) (hp:List HO):Option CT:=match args,hp with
  |[.v (.one (.ptr 0 0)),.v (.one (.p (.int .i64 id))),.v (.one (.p (.int .i64 off))),.v (.one (.p (.list .byte b)))],[.pack [.obj 90 [(.row 1),(.p (.int .i64 n))],.row .upl 67 l]]=>(fun(l:List Upl) (n id off:Int) (b:Str)=>(some (.one ⟨I.hid (zy l n∧b.length≤1000000),(.ret (.v (.one (.p (.int .i64 (I.hid ((appC l id off b)))))))),[.pack [.obj 90 [(.row 1),(.p (.int .i64 n))],.row .upl 67 (I.hid ((appL l id off b)))]]⟩):Option CT)) l n id off b
  |_,_=>none
theorem Td:zo Tryz.prog 72 (qM alg):=by
  intro args hp r h
  unfold qM at h
  split at h
  · cases h;exact fun hn=>zjq _ _ _ _ _ hn
  · cases h
def zfe:Know Tryz.prog:=⟨72,qM,Td⟩
def zfd:Know Tryz.prog:=⟨72,fun I=>zu I (qM I),zf Td⟩
end Go.Proofs.YtcclfkakcgnacaaGreatDoor
namespace Go.Proofs.YtcclfkakcgnacaaGreatDoor
open Go Go.Sep Go.Ab
set_option maxRecDepth 100000
theorem zgL (l:List Upl) (n id size:Int) (hneed:zy l n):Spc Tryz.prog 73 [.v (.one (.ptr 0 0)),.v (.one (.p (.int .i64 id))),.v (.one (.p (.int .i64 size)))] [.pack [.obj 90 [(.row 1),(.p (.int .i64 n))],.row .upl 67 l]] (.ret (.v (.one (.p (.int .i64 ((decC l id size))))))) [.pack [.obj 90 [(.row 1),(.p (.int .i64 n))],.row .upl 67 ((decL l id size))]]:=by
  have hs:=hneed
  have hf:=xU hs
  generalize he:decC l id size=re
  generalize hl:decL l id size=rl
  refine spcG zi mixed Tryz.func73 (by kernel_rfl) { sU with bare:=[66],keep:=some [0,1,2,6,7,8]} [Tc,U9] (by kernel_rfl) ?_
  intro I X hI hX
  refine zh (let y0:=I.get (α:=Go.Ab.Upl) l (Go.Ab.Upl.mk (0:Int) (0:Int) ([]:List UInt8) ([]:List UInt8) (0:Int)) (I.hid (α:=Int) (Nat.cast (atU l id)));let y1:=I.inb (I.hid (α:=Int) (Nat.cast (atU l id))) (I.len (α:=Go.Ab.Upl) l);.br (I.hid (α:=Bool) (Decidable.decide (LT.lt (atU l id) (List.length l)))) (.need (I.hid (α:=(Prop)) (And (LE.le (List.length l) 1000000) (LT.lt (atU l id) (List.length l)))) (.br (I.bnot (I.ieq 0 0)) (.fin (.ret (.v (.one (.p (.int .i64 0))))) [(.pack [(.obj 90 [(.row 1),(.p (.int .i64 n))]),(.row .upl 67 l)])]) (.need y1 (.br (I.ile 0 (Go.Ab.Upl.size y0)) (.fin (.ret (.v (.one (.p (.int .i64 18))))) [(.pack [(.obj 90 [(.row 1),(.p (.int .i64 n))]),(.row .upl 67 l)])]) (.br (I.ilt size 0) (.fin (.ret (.v (.one (.p (.int .i64 1))))) [(.pack [(.obj 90 [(.row 1),(.p (.int .i64 n))]),(.row .upl 67 l)])]) (.br (I.ilt 2000 size) (.fin (.ret (.v (.one (.p (.int .i64 4))))) [(.pack [(.obj 90 [(.row 1),(.p (.int .i64 n))]),(.row .upl 67 l)])]) (.need y1 (.br (I.ilt size (I.len (α:=UInt8) (Go.Ab.Upl.bytes y0))) (.fin (.ret (.v (.one (.p (.int .i64 4))))) [(.pack [(.obj 90 [(.row 1),(.p (.int .i64 n))]),(.row .upl 67 l)])]) (.need y1 (.fin (.ret (.v (.one (.p (.int .i64 0))))) [(.pack [(.obj 90 [(.row 1),(.p (.int .i64 n))]),(.row .upl 67 (I.set (α:=Go.Ab.Upl) l (I.hid (α:=Int) (Nat.cast (atU l id))) (Go.Ab.Upl.mk (Go.Ab.Upl.id y0) size (Go.Ab.Upl.note y0) (Go.Ab.Upl.bytes y0) (Go.Ab.Upl.sent y0))))])])))))))))) (.need (I.hid (α:=(Prop)) (And (LE.le (List.length l) 1000000) (Not (LT.lt (atU l id) (List.length l))))) (.br (I.bnot (I.ieq 10 0)) (.fin (.ret (.v (.one (.p (.int .i64 10))))) [(.pack [(.obj 90 [(.row 1),(.p (.int .i64 n))]),(.row .upl 67 l)])]) (.stop 0)))) (by kernel_rfl) ?_
  simp only [zl]
  subst hI
  simp only [nrmA,nrmB,nrlB,reduceCtorEq,HO.pack.injEq,HO.obj.injEq]
  unfold decL at hl
  rw [he] at hl
  unfold decC at he
  unfold zS upl0 at he hl
  generalize l.getD (atU l id) ⟨0,0,[],[],0⟩=x at *
  (repeat' (first|refine And.intro ?_ ?_|intro _))<;>first|omega|exact True.intro|exact False.elim ‹False›|skip
  all_goals first
    |exact hf.1
    |((repeat(first|rewrite [if_pos (by first|omega|assumption|(simp only [*,or_self,or_true,true_or,or_false,false_or,not_true_eq_false,not_false_eq_true,Bool.false_eq_true,Bool.true_eq_false,and_self,and_true,true_and];done)|(simp only [*];omega)|(simp [*];done)|(simp [*];omega))] at he|rewrite [if_neg (by first|omega|assumption|(simp only [*,or_self,or_true,true_or,or_false,false_or,not_true_eq_false,not_false_eq_true,Bool.false_eq_true,Bool.true_eq_false,and_self,and_true,true_and];done)|(simp only [*];omega)|(simp [*];done)|(simp [*];omega))] at he));subst he;((repeat(first|rewrite [if_pos (by first|omega|assumption|(simp only [*,or_self,or_true,true_or,or_false,false_or,not_true_eq_false,not_false_eq_true,Bool.false_eq_true,Bool.true_eq_false,and_self,and_true,true_and];done)|(simp only [*];omega)|(simp [*];done)|(simp [*];omega))] at hl|rewrite [if_neg (by first|omega|assumption|(simp only [*,or_self,or_true,true_or,or_false,false_or,not_true_eq_false,not_false_eq_true,Bool.false_eq_true,Bool.true_eq_false,and_self,and_true,true_and];done)|(simp only [*];omega)|(simp [*];done)|(simp [*];omega))] at hl)));subst hl;first|rfl|omega)
def tY (I:Alg) (args:List D) (hp:List HO):Option CT:=match args,hp with
  |[.v (.one (.ptr 0 0)),.v (.one (.p (.int .i64 id))),.v (.one (.p (.int .i64 size)))],[.pack [.obj 90 [(.row 1),(.p (.int .i64 n))],.row .upl 67 l]]=>(fun(l:List Upl) (n id size:Int)=>(some (.one ⟨I.hid (zy l n),(.ret (.v (.one (.p (.int .i64 (I.hid ((decC l id size)))))))),[.pack [.obj 90 [(.row 1),(.p (.int .i64 n))],.row .upl 67 (I.hid ((decL l id size)))]]⟩):Option CT)) l n id size
  |_,_=>none
theorem VH:zo Tryz.prog 73 (tY alg):=by
  intro args hp r h
  unfold tY at h
  split at h
  · cases h;exact fun hn=>zgL _ _ _ _ hn
  · cases h
def zcd:Know Tryz.prog:=⟨73,tY,VH⟩
def zcc:Know Tryz.prog:=⟨73,fun I=>zu I (tY I),zf VH⟩
theorem zlR (a b:Int) (m y:Str) (t:Int):Spc Tryz.prog 107 [.v (.agg [(.p (.int .i64 a)),(.p (.int .i64 b)),(.p (.str m)),(.p (.list .byte y)),(.p (.int .i64 t))])] [] (.ret (.v (.one (.p (.bool ((b == (y.length:Int)))))))) []:=by
  refine spcG zi mixed Tryz.func107 (by kernel_rfl) { keep:=some [0,1,2]} [] (by kernel_rfl) ?_
  intro I X hI hX
  refine zh (.fin (.ret (.v (.one (.p (.bool (I.ieq b (I.len (α:=UInt8) y))))))) []) (by kernel_rfl) ?_
  simp only [zl]
  subst hI
  simp only [nrmA,nrmB]
  try trivial
def XT (I:Alg) (args:List D) (hp:List HO):Option CT:=match args,hp with
  |[.v (.agg [(.p (.int .i64 a)),(.p (.int .i64 b)),(.p (.str m)),(.p (.list .byte y)),(.p (.int .i64 t))])],[]=>(fun(a b:Int) (m y:Str) (t:Int)=>(some (.one ⟨I.hid (True),(.ret (.v (.one (.p (.bool (I.hid ((b == (y.length:Int))))))))),[]⟩):Option CT)) a b m y t
  |_,_=>none
theorem zc5:zo Tryz.prog 107 (XT alg):=by
  intro args hp r h
  unfold XT at h
  split at h
  · cases h;exact fun hn=>zlR _ _ _ _ _
  · cases h
def ziU:Know Tryz.prog:=⟨107,XT,zc5⟩
def ziT:Know Tryz.prog:=⟨107,fun I=>zu I (XT I),zf zc5⟩
theorem zkX (l:List Upl) (n id:Int) (hneed:zy l n):Spc Tryz.prog 75 [.v (.one (.ptr 0 0)),.v (.one (.p (.int .i64 id)))] [.pack [.obj 90 [(.row 1),(.p (.int .i64 n))],.row .upl 67 l]] (.ret (.v (.one (.p (.int .i64 ((begC l id))))))) [.pack [.obj 90 [(.row 1),(.p (.int .i64 n))],.row .upl 67 ((begL l id))]]:=by
  have hs:=hneed
  have hf:=xU hs
  generalize he:begC l id=re
  generalize hl:begL l id=rl
  refine spcG zi mixed Tryz.func75 (by kernel_rfl) { sU with bare:=[66],keep:=some [0,1,4,5,6]} [Tc,U9,ziU,ziT] (by kernel_rfl) ?_
  intro I X hI hX
  refine zh (let y0:=I.get (α:=Go.Ab.Upl) l (Go.Ab.Upl.mk (0:Int) (0:Int) ([]:List UInt8) ([]:List UInt8) (0:Int)) (I.hid (α:=Int) (Nat.cast (atU l id)));let y1:=I.inb (I.hid (α:=Int) (Nat.cast (atU l id))) (I.len (α:=Go.Ab.Upl) l);.br (I.hid (α:=Bool) (Decidable.decide (LT.lt (atU l id) (List.length l)))) (.need (I.hid (α:=(Prop)) (And (LE.le (List.length l) 1000000) (LT.lt (atU l id) (List.length l)))) (.br (I.bnot (I.ieq 0 0)) (.fin (.ret (.v (.one (.p (.int .i64 0))))) [(.pack [(.obj 90 [(.row 1),(.p (.int .i64 n))]),(.row .upl 67 l)])]) (.need y1 (.br (I.bnot (I.ieq (Go.Ab.Upl.sent y0) 0)) (.fin (.ret (.v (.one (.p (.int .i64 19))))) [(.pack [(.obj 90 [(.row 1),(.p (.int .i64 n))]),(.row .upl 67 l)])]) (.need y1 (.need (I.hid (α:=(Prop)) True) (.br (I.bnot (I.hid (α:=Bool) (BEq.beq (Go.Ab.Upl.size y0) (Nat.cast (List.length (Go.Ab.Upl.bytes y0)))))) (.fin (.ret (.v (.one (.p (.int .i64 14))))) [(.pack [(.obj 90 [(.row 1),(.p (.int .i64 n))]),(.row .upl 67 l)])]) (.need y1 (.fin (.ret (.v (.one (.p (.int .i64 0))))) [(.pack [(.obj 90 [(.row 1),(.p (.int .i64 n))]),(.row .upl 67 (I.set (α:=Go.Ab.Upl) l (I.hid (α:=Int) (Nat.cast (atU l id))) (Go.Ab.Upl.mk (Go.Ab.Upl.id y0) (Go.Ab.Upl.size y0) (Go.Ab.Upl.note y0) (Go.Ab.Upl.bytes y0) (1:Int))))])]))))))))) (.need (I.hid (α:=(Prop)) (And (LE.le (List.length l) 1000000) (Not (LT.lt (atU l id) (List.length l))))) (.br (I.bnot (I.ieq 10 0)) (.fin (.ret (.v (.one (.p (.int .i64 10))))) [(.pack [(.obj 90 [(.row 1),(.p (.int .i64 n))]),(.row .upl 67 l)])]) (.stop 0)))) (by kernel_rfl) ?_
  simp only [zl]
  subst hI
  simp only [nrmA,nrmB,nrlB,reduceCtorEq,HO.pack.injEq,HO.obj.injEq]
  unfold begL at hl
  rw [he] at hl
  unfold begC at he
  unfold zS upl0 at he hl
  generalize l.getD (atU l id) ⟨0,0,[],[],0⟩=x at *
  (repeat' (first|refine And.intro ?_ ?_|intro _))<;>first|omega|exact True.intro|exact False.elim ‹False›|skip
  all_goals first
    |exact hf.1
    |((repeat(first|rewrite [if_pos (by first|omega|assumption|(simp only [*,or_self,or_true,true_or,or_false,false_or,not_true_eq_false,not_false_eq_true,Bool.false_eq_true,Bool.true_eq_false,and_self,and_true,true_and];done)|(simp only [*];omega)|(simp [*];done)|(simp [*];omega))] at he|rewrite [if_neg (by first|omega|assumption|(simp only [*,or_self,or_true,true_or,or_false,false_or,not_true_eq_false,not_false_eq_true,Bool.false_eq_true,Bool.true_eq_false,and_self,and_true,true_and];done)|(simp only [*];omega)|(simp [*];done)|(simp [*];omega))] at he));subst he;((repeat(first|rewrite [if_pos (by first|omega|assumption|(simp only [*,or_self,or_true,true_or,or_false,false_or,not_true_eq_false,not_false_eq_true,Bool.false_eq_true,Bool.true_eq_false,and_self,and_true,true_and];done)|(simp only [*];omega)|(simp [*];done)|(simp [*];omega))] at hl|rewrite [if_neg (by first|omega|assumption|(simp only [*,or_self,or_true,true_or,or_false,false_or,not_true_eq_false,not_false_eq_true,Bool.false_eq_true,Bool.true_eq_false,and_self,and_true,true_and];done)|(simp only [*];omega)|(simp [*];done)|(simp [*];omega))] at hl)));subst hl;first|rfl|omega)
def Yf (I:Alg) (args:List D) (hp:List HO):Option CT:=match args,hp with
  |[.v (.one (.ptr 0 0)),.v (.one (.p (.int .i64 id)))],[.pack [.obj 90 [(.row 1),(.p (.int .i64 n))],.row .upl 67 l]]=>(fun(l:List Upl) (n id:Int)=>(some (.one ⟨I.hid (zy l n),(.ret (.v (.one (.p (.int .i64 (I.hid ((begC l id)))))))),[.pack [.obj 90 [(.row 1),(.p (.int .i64 n))],.row .upl 67 (I.hid ((begL l id)))]]⟩):Option CT)) l n id
  |_,_=>none
theorem zaC:zo Tryz.prog 75 (Yf alg):=by
  intro args hp r h
  unfold Yf at h
  split at h
  · cases h;exact fun hn=>zkX _ _ _ hn
  · cases h
def zgN:Know Tryz.prog:=⟨75,Yf,zaC⟩
def zgM:Know Tryz.prog:=⟨75,fun I=>zu I (Yf I),zf zaC⟩
theorem znK (l:List Upl) (n id:Int) (hneed:zy l n):Spc Tryz.prog 76 [.v (.one (.ptr 0 0)),.v (.one (.p (.int .i64 id)))] [.pack [.obj 90 [(.row 1),(.p (.int .i64 n))],.row .upl 67 l]] (.ret (.v (.one (.p (.int .i64 ((endC l id))))))) [.pack [.obj 90 [(.row 1),(.p (.int .i64 n))],.row .upl 67 ((endL l id))]]:=by
  have hs:=hneed
  have hf:=xU hs
  generalize he:endC l id=re
  generalize hl:endL l id=rl
  refine spcG zi mixed Tryz.func76 (by kernel_rfl) { sU with bare:=[66],keep:=some [0,1,4,5,6]} [Tc,U9] (by kernel_rfl) ?_
  intro I X hI hX
  refine zh (let y1:=I.hid (α:=Int) (Nat.cast (atU l id));let y0:=I.get (α:=Go.Ab.Upl) l (Go.Ab.Upl.mk (0:Int) (0:Int) ([]:List UInt8) ([]:List UInt8) (0:Int)) y1;let y2:=I.inb y1 (I.len (α:=Go.Ab.Upl) l);.br (I.hid (α:=Bool) (Decidable.decide (LT.lt (atU l id) (List.length l)))) (.need (I.hid (α:=(Prop)) (And (LE.le (List.length l) 1000000) (LT.lt (atU l id) (List.length l)))) (.br (I.bnot (I.ieq 0 0)) (.fin (.ret (.v (.one (.p (.int .i64 0))))) [(.pack [(.obj 90 [(.row 1),(.p (.int .i64 n))]),(.row .upl 67 l)])]) (.need y2 (.br (I.bnot (I.ieq (Go.Ab.Upl.sent y0) 1)) (.fin (.ret (.v (.one (.p (.int .i64 19))))) [(.pack [(.obj 90 [(.row 1),(.p (.int .i64 n))]),(.row .upl 67 l)])]) (.need y2 (.fin (.ret (.v (.one (.p (.int .i64 0))))) [(.pack [(.obj 90 [(.row 1),(.p (.int .i64 n))]),(.row .upl 67 (I.set (α:=Go.Ab.Upl) l y1 (Go.Ab.Upl.mk (Go.Ab.Upl.id y0) (Go.Ab.Upl.size y0) (Go.Ab.Upl.note y0) (Go.Ab.Upl.bytes y0) (2:Int))))])])))))) (.need (I.hid (α:=(Prop)) (And (LE.le (List.length l) 1000000) (Not (LT.lt (atU l id) (List.length l))))) (.br (I.bnot (I.ieq 10 0)) (.fin (.ret (.v (.one (.p (.int .i64 10))))) [(.pack [(.obj 90 [(.row 1),(.p (.int .i64 n))]),(.row .upl 67 l)])]) (.stop 0)))) (by kernel_rfl) ?_
  simp only [zl]
  subst hI
  simp only [nrmA,nrmB,nrlB,reduceCtorEq,HO.pack.injEq,HO.obj.injEq]
  unfold endL at hl
  rw [he] at hl
  unfold endC at he
  unfold zS upl0 at he hl
  generalize l.getD (atU l id) ⟨0,0,[],[],0⟩=x at *
  (repeat' (first|refine And.intro ?_ ?_|intro _))<;>first|omega|exact True.intro|exact False.elim ‹False›|skip
  all_goals first
    |exact hf.1
    |((repeat(first|rewrite [if_pos (by first|omega|assumption|(simp only [*,or_self,or_true,true_or,or_false,false_or,not_true_eq_false,not_false_eq_true,Bool.false_eq_true,Bool.true_eq_false,and_self,and_true,true_and];done)|(simp only [*];omega)|(simp [*];done)|(simp [*];omega))] at he|rewrite [if_neg (by first|omega|assumption|(simp only [*,or_self,or_true,true_or,or_false,false_or,not_true_eq_false,not_false_eq_true,Bool.false_eq_true,Bool.true_eq_false,and_self,and_true,true_and];done)|(simp only [*];omega)|(simp [*];done)|(simp [*];omega))] at he));subst he;((repeat(first|rewrite [if_pos (by first|omega|assumption|(simp only [*,or_self,or_true,true_or,or_false,false_or,not_true_eq_false,not_false_eq_true,Bool.false_eq_true,Bool.true_eq_false,and_self,and_true,true_and];done)|(simp only [*];omega)|(simp [*];done)|(simp [*];omega))] at hl|rewrite [if_neg (by first|omega|assumption|(simp only [*,or_self,or_true,true_or,or_false,false_or,not_true_eq_false,not_false_eq_true,Bool.false_eq_true,Bool.true_eq_false,and_self,and_true,true_and];done)|(simp only [*];omega)|(simp [*];done)|(simp [*];omega))] at hl)));subst hl;first|rfl|omega)
def Ro (I:Alg) (args:List D) (hp:List HO):Option CT:=match args,hp with
  |[.v (.one (.ptr 0 0)),.v (.one (.p (.int .i64 id)))],[.pack [.obj 90 [(.row 1),(.p (.int .i64 n))],.row .upl 67 l]]=>(fun(l:List Upl) (n id:Int)=>(some (.one ⟨I.hid (zy l n),(.ret (.v (.one (.p (.int .i64 (I.hid ((endC l id)))))))),[.pack [.obj 90 [(.row 1),(.p (.int .i64 n))],.row .upl 67 (I.hid ((endL l id)))]]⟩):Option CT)) l n id
  |_,_=>none
theorem zgK:zo Tryz.prog 76 (Ro alg):=by
  intro args hp r h
  unfold Ro at h
  split at h
  · cases h;exact fun hn=>znK _ _ _ hn
  · cases h
def zkW:Know Tryz.prog:=⟨76,Ro,zgK⟩
def zkV:Know Tryz.prog:=⟨76,fun I=>zu I (Ro I),zf zgK⟩
theorem zmn (l:List Upl) (n:Int) (hneed:0≤n∧n≤1000000):Spc Tryz.prog 18 [.v (.one (.ptr 0 0))] [.pack [.obj 90 [(.row 1),(.p (.int .i64 n))],.row .upl 67 l]] (.ret (.v (.one (.p (.int .i64 ((n+1))))))) [.pack [.obj 90 [(.row 1),(.p (.int .i64 n))],.row .upl 67 l]]:=by
  refine spcG zi mixed Tryz.func18 (by kernel_rfl) { sU with keep:=some [0,2]} [] (by kernel_rfl) ?_
  intro I X hI hX
  refine zh (.need (I.inr Go.IntKind.i64 (I.add n 1)) (.fin (.ret (.v (.one (.p (.int .i64 (I.add n 1)))))) [(.pack [(.obj 90 [(.row 1),(.p (.int .i64 n))]),(.row .upl 67 l)])])) (by kernel_rfl) ?_
  simp only [zl]
  subst hI
  simp only [nrmA,nrmB]
  (repeat' (first|refine And.intro ?_ ?_|intro _))<;>first|omega|exact True.intro|exact False.elim ‹False›|skip
def Wv (I:Alg) (args:List D) (hp:List HO):Option CT:=match args,hp with
  |[.v (.one (.ptr 0 0))],[.pack [.obj 90 [(.row 1),(.p (.int .i64 n))],.row .upl 67 l]]=>(fun(l:List Upl) (n:Int)=>(some (.one ⟨I.hid (0≤n∧n≤1000000),(.ret (.v (.one (.p (.int .i64 (I.hid ((n+1)))))))),[.pack [.obj 90 [(.row 1),(.p (.int .i64 n))],.row .upl 67 l]]⟩):Option CT)) l n
  |_,_=>none
theorem zdB:zo Tryz.prog 18 (Wv alg):=by
  intro args hp r h
  unfold Wv at h
  split at h
  · cases h;exact fun hn=>zmn _ _ hn
  · cases h
def Yb:Know Tryz.prog:=⟨18,Wv,zdB⟩
def Ya:Know Tryz.prog:=⟨18,fun I=>zu I (Wv I),zf zdB⟩
theorem znI:Spc Tryz.prog 25 [] [] (.ret (.v (.one (.ptr 0 0)))) [.pack [.obj 90 [(.row 1),(.p (.int .i64 0))],.row .upl 67 ([])]]:=by
  refine spcG zi mixed Tryz.func25 (by kernel_rfl) { sU with keep:=some [0]} [] (by kernel_rfl) ?_
  intro I X hI hX
  refine zh (.fin (.ret (.v (.one (.ptr 0 0)))) [(.pack [(.obj 90 [(.row 1),(.p (.int .i64 0))]),(.row .upl 67 ([]:List Go.Ab.Upl))])]) (by kernel_rfl) ?_
  simp only [zl]
  trivial
def Rl (I:Alg) (args:List D) (hp:List HO):Option CT:=match args,hp with
  |[],[]=>(fun(_:Unit)=>(some (.one ⟨I.hid (True),(.ret (.v (.one (.ptr 0 0)))),[.pack [.obj 90 [(.row 1),(.p (.int .i64 0))],.row .upl 67 (I.hid ([]))]]⟩):Option CT)) ()
  |_,_=>none
theorem zgH:zo Tryz.prog 25 (Rl alg):=by
  intro args hp r h
  unfold Rl at h
  split at h
  · cases h;exact fun hn=>znI
  · cases h
def zcb:Know Tryz.prog:=⟨25,Rl,zgH⟩
def zca:Know Tryz.prog:=⟨25,fun I=>zu I (Rl I),zf zgH⟩
def getB (l:List Upl) (id:Int):Bool:=decide (atU l id<l.length)
def getU (l:List Upl) (id:Int):Upl:=if atU l id<l.length then zS l id else upl0
theorem zkb (l:List Upl) (n id:Int) (hneed:zy l n):Spc Tryz.prog 41 [.v (.one (.ptr 0 0)),.v (.one (.p (.int .i64 id)))] [.obj 90 [(.row 1),(.p (.int .i64 n))],.row .upl 67 l] (.ret (.tup [(.agg [(.p (.int .i64 ((getU l id).id))),(.p (.int .i64 ((getU l id).size))),(.p (.str ((getU l id).note))),(.p (.list .byte ((getU l id).bytes))),(.p (.int .i64 ((getU l id).sent)))]),(.one (.p (.bool ((getB l id)))))])) [.obj 90 [(.row 1),(.p (.int .i64 n))],.row .upl 67 l]:=by
  have hs:=hneed
  have hf:=xU hs
  generalize he:getU l id=re
  obtain⟨a,b,c,d,e⟩:=re
  generalize hl:getB l id=rl
  refine spcG zi mixed Tryz.func41 (by kernel_rfl) { sU with flat:=true,bare:=[66],keep:=some [0,1,4,5,6,7,8]} [Va,W9,Tc,U9] (by kernel_rfl) ?_
  intro I X hI hX
  refine zh (let y0:=I.get (α:=Go.Ab.Upl) l (Go.Ab.Upl.mk (0:Int) (0:Int) ([]:List UInt8) ([]:List UInt8) (0:Int)) (I.hid (α:=Int) (Nat.cast (atU l id)));let y1:=I.inb (I.hid (α:=Int) (Nat.cast (atU l id))) (I.len (α:=Go.Ab.Upl) l);.br (I.hid (α:=Bool) (Decidable.decide (LT.lt (atU l id) (List.length l)))) (.need (I.hid (α:=(Prop)) (And (LE.le (List.length l) 1000000) (LT.lt (atU l id) (List.length l)))) (.br (I.bnot (I.ieq 0 0)) (.fin (.ret (.tup [(.agg [(.p (.int .i64 0)),(.p (.int .i64 0)),(.p (.str ([]:List UInt8))),(.p (.list .byte ([]:List UInt8))),(.p (.int .i64 0))]),(.one (.p (.bool Bool.false)))])) [(.obj 90 [(.row 1),(.p (.int .i64 n))]),(.row .upl 67 l)]) (.need y1 (.need y1 (.need (I.hid (α:=(Prop)) (LE.le (List.length (Go.Ab.Upl.bytes y0)) 100000000)) (.fin (.ret (.tup [(.agg [(.p (.int .i64 (Go.Ab.Upl.id y0))),(.p (.int .i64 (Go.Ab.Upl.size y0))),(.p (.str (Go.Ab.Upl.note y0))),(.p (.list .byte (Go.Ab.Upl.bytes y0))),(.p (.int .i64 (Go.Ab.Upl.sent y0)))]),(.one (.p (.bool Bool.true)))])) [(.obj 90 [(.row 1),(.p (.int .i64 n))]),(.row .upl 67 l)])))))) (.need (I.hid (α:=(Prop)) (And (LE.le (List.length l) 1000000) (Not (LT.lt (atU l id) (List.length l))))) (.br (I.bnot (I.ieq 10 0)) (.fin (.ret (.tup [(.agg [(.p (.int .i64 0)),(.p (.int .i64 0)),(.p (.str ([]:List UInt8))),(.p (.list .byte ([]:List UInt8))),(.p (.int .i64 0))]),(.one (.p (.bool Bool.false)))])) [(.obj 90 [(.row 1),(.p (.int .i64 n))]),(.row .upl 67 l)]) (.stop 0)))) (by kernel_rfl) ?_
  simp only [zl]
  subst hI
  simp only [nrmA,nrmB,nrlB,reduceCtorEq]
  unfold getU at he
  unfold getB at hl
  unfold zS upl0 at he
  have hx:atU l id<l.length→_:=fun h=>(hs.each _ (wB h)).bl
  unfold zS upl0 at hx
  generalize l.getD (atU l id) ⟨0,0,[],[],0⟩=x at *
  by_cases h:atU l id<l.length
  · rw [if_pos h] at he
    rw [decide_eq_true h] at hl
    subst he;subst hl
    have hx:=hx h
    (repeat' (first|refine And.intro ?_ ?_|intro _))<;>first|omega|exact True.intro|exact False.elim ‹False›|skip
    all_goals first|exact hf.1|rfl
  · rw [if_neg h] at he
    rw [decide_eq_false h] at hl
    cases he;subst hl
    (repeat' (first|refine And.intro ?_ ?_|intro _))<;>first|omega|exact True.intro|exact False.elim ‹False›|skip
    all_goals first|exact hf.1|rfl|assumption
def Wy (I:Alg) (args:List D) (hp:List HO):Option CT:=match args,hp with
  |[.v (.one (.ptr 0 0)),.v (.one (.p (.int .i64 id)))],[.obj 90 [(.row 1),(.p (.int .i64 n))],.row .upl 67 l]=>(fun(l:List Upl) (n id:Int)=>(some (.one ⟨I.hid (zy l n),(.ret (.tup [(.agg [(.p (.int .i64 (I.hid ((getU l id).id)))),(.p (.int .i64 (I.hid ((getU l id).size)))),(.p (.str (I.hid ((getU l id).note)))),(.p (.list .byte (I.hid ((getU l id).bytes)))),(.p (.int .i64 (I.hid ((getU l id).sent))))]),(.one (.p (.bool (I.hid ((getB l id))))))])),[.obj 90 [(.row 1),(.p (.int .i64 n))],.row .upl 67 l]⟩):Option CT)) l n id
  |_,_=>none
theorem zdD:zo Tryz.prog 41 (Wy alg):=by
  intro args hp r h
  unfold Wy at h
  split at h
  · cases h;exact fun hn=>zkb _ _ _ hn
  · cases h
def qK:Know Tryz.prog:=⟨41,Wy,zdD⟩
def qJ:Know Tryz.prog:=⟨41,fun I=>zu I (Wy I),zf zdD⟩
theorem znJ (l:List Upl) (n id:Int) (hneed:zy l n):Spc Tryz.prog 41 [.v (.one (.ptr 0 0)),.v (.one (.p (.int .i64 id)))] [.pack [.obj 90 [(.row 1),(.p (.int .i64 n))],.row .upl 67 l]] (.ret (.tup [(.agg [(.p (.int .i64 ((getU l id).id))),(.p (.int .i64 ((getU l id).size))),(.p (.str ((getU l id).note))),(.p (.list .byte ((getU l id).bytes))),(.p (.int .i64 ((getU l id).sent)))]),(.one (.p (.bool ((getB l id)))))])) [.pack [.obj 90 [(.row 1),(.p (.int .i64 n))],.row .upl 67 l]]:=
  Spc.packed (ex:=[]) (zkb l n id hneed) rfl (by simp) rfl
def Rn (I:Alg) (args:List D) (hp:List HO):Option CT:=match args,hp with
  |[.v (.one (.ptr 0 0)),.v (.one (.p (.int .i64 id)))],[.pack [.obj 90 [(.row 1),(.p (.int .i64 n))],.row .upl 67 l]]=>(fun(l:List Upl) (n id:Int)=>(some (.one ⟨I.hid (zy l n),(.ret (.tup [(.agg [(.p (.int .i64 (I.hid ((getU l id).id)))),(.p (.int .i64 (I.hid ((getU l id).size)))),(.p (.str (I.hid ((getU l id).note)))),(.p (.list .byte (I.hid ((getU l id).bytes)))),(.p (.int .i64 (I.hid ((getU l id).sent))))]),(.one (.p (.bool (I.hid ((getB l id))))))])),[.pack [.obj 90 [(.row 1),(.p (.int .i64 n))],.row .upl 67 l]]⟩):Option CT)) l n id
  |_,_=>none
theorem zgJ:zo Tryz.prog 41 (Rn alg):=by
  intro args hp r h
  unfold Rn at h
  split at h
  · cases h;exact fun hn=>znJ _ _ _ hn
  · cases h
def Y2:Know Tryz.prog:=⟨41,Rn,zgJ⟩
def Y1:Know Tryz.prog:=⟨41,fun I=>zu I (Rn I),zf zgJ⟩
theorem zlt {l:List Upl} (h:l.Pairwise fun a b=>a.id<b.id) {i:Nat} (hi:i<l.length):getU l (l.getD i ⟨0,0,[],[],0⟩).id=l.getD i ⟨0,0,[],[],0⟩:=by
  have e:l.getD i ⟨0,0,[],[],0⟩=l[i]:=by simp [hi]
  have ha:=zof h hi
  rw [e,getU,ha,if_pos hi,zS,ha]
  simp [hi]
theorem zgI (l:List Upl) (n:Int) (hneed:zy l n):Spc Tryz.prog 15 [.v (.one (.ptr 0 0))] [.obj 90 [(.row 1),(.p (.int .i64 n))],.row .upl 67 l] (.ret (.v (.one (.row 2)))) [.obj 90 [(.row 1),(.p (.int .i64 n))],.row .upl 67 l,.row .upl 67 l]:=by
  have hs:=hneed
  have hf:=xU hs
  refine spcG zi mixed Tryz.func15 (by kernel_rfl) { sU with flat:=true,bare:=[41],nr:=[3],keep:=some [0,2,3,5,6,11,12,13]} [qK,qJ,Y2,Y1] (by kernel_rfl) ?_
  intro I X hI hX
  refine zh (.code 0 [1,1,0,1,0] ⟨[(13,(.v (.one (.p (.int .i64 0))))),(12,(.v (.one (.p (.int .i64 (I.len (α:=Go.Ab.Upl) l)))))),(11,(.v (.one (.row 1)))),(3,(.v (.one (.row 2)))),(2,(.v (.one .nilS))),(0,(.v (.one (.ptr 0 0))))],[(.obj 90 [(.row 1),(.p (.int .i64 n))]),(.row .upl 67 l),(.row .upl 67 ([]:List Go.Ab.Upl))],30,none⟩) (by kernel_rfl) ?_
  simp only [zl]
  refine zA hI zi mixed [qK,qJ,Y2,Y1] hX [0,3,11,12,13] (fun(g:Nat × List Upl)=>match g with|(i,o)=>i≤l.length∧o=l.take i) (fun(g:Nat × List Upl)=>match g with|(i,o)=>⟨[(0,.v (.one (.ptr 0 0))),(3,.v (.one (.row 2))),(11,.v (.one (.row 1))),(12,.v (.one (.p (.int .i64 ((I.len (α:=Upl) l)))))),(13,.v (.one (.p (.int .i64 i))))],[.obj 90 [(.row 1),(.p (.int .i64 n))],.row .upl 67 l,.row .upl 67 o],30,none⟩) (fun(g:Nat × List Upl)=>match g with|(i,o)=>l.length - i) (0,[]) (by kernel_rfl) (by kernel_rfl) ?_ ?_
  · exact⟨Nat.zero_le _,rfl⟩
  rintro⟨i,o⟩ ⟨h1,h2⟩ A hA
  simp only at hA
  refine zh (let y0:=I.get (α:=Go.Ab.Upl) l (Go.Ab.Upl.mk (0:Int) (0:Int) ([]:List UInt8) ([]:List UInt8) (0:Int)) (Nat.cast i);let y1:=I.hid (α:=(List UInt8)) (Go.Ab.Upl.bytes (getU l (Go.Ab.Upl.id y0)));let y2:=I.hid (α:=(List UInt8)) (Go.Ab.Upl.note (getU l (Go.Ab.Upl.id y0)));let y3:=I.hid (α:=Int) (Go.Ab.Upl.size (getU l (Go.Ab.Upl.id y0)));let y4:=I.hid (α:=Int) (Go.Ab.Upl.sent (getU l (Go.Ab.Upl.id y0)));let y5:=I.hid (α:=Int) (Go.Ab.Upl.id (getU l (Go.Ab.Upl.id y0)));let y6:=I.inb (Nat.cast i) (I.len (α:=Go.Ab.Upl) l);.br (I.ilt (Nat.cast i) (I.len (α:=Go.Ab.Upl) l)) (.need y6 (.need y6 (.need (I.hid (α:=(Prop)) (zy l n)) (.need (I.few (I.add (I.len (α:=Go.Ab.Upl) o) (I.len (α:=Go.Ab.Upl) ([(Go.Ab.Upl.mk y5 y3 y2 y1 y4)]:List Go.Ab.Upl))) 100000000) (.need (I.inr Go.IntKind.i64 (I.add (Nat.cast i) 1)) (.need (A ⟨[(0,(.v (.one (.ptr 0 0)))),(3,(.v (.one (.row 2)))),(11,(.v (.one (.row 1)))),(12,(.v (.one (.p (.int .i64 (I.len (α:=Go.Ab.Upl) l)))))),(13,(.v (.one (.p (.int .i64 (I.add (Nat.cast i) 1))))))],[(.obj 90 [(.row 1),(.p (.int .i64 n))]),(.row .upl 67 l),(.row .upl 67 (I.app (α:=Go.Ab.Upl) o ([(Go.Ab.Upl.mk y5 y3 y2 y1 y4)]:List Go.Ab.Upl)))],30,none⟩) .qed)))))) (.fin (.ret (.v (.one (.row 2)))) [(.obj 90 [(.row 1),(.p (.int .i64 n))]),(.row .upl 67 l),(.row .upl 67 o)])) (by kernel_rfl) ?_
  simp only [zl]
  subst hI
  simp only [nrmA,nrmB,nrlB,reduceCtorEq]
  have hx:i<l.length→_:=zlt hs.srt
  have hy:i<l.length→l.take (i+1)=l.take i++[l.getD i ⟨0,0,[],[],0⟩]:=fun h=>by rw [List.take_succ_eq_append_getElem h];simp [h]
  have hw: ¬ i<l.length→o=l:=fun h=>by rw [h2,List.take_of_length_le (by omega)]
  have hol:o.length≤i:=by rw [h2,List.length_take];omega
  refine⟨fun c=> ?_,fun c=>hw (by omega)⟩
  rw [hx (by omega)]
  have hy:=hy (by omega)
  generalize l.getD i ⟨0,0,[],[],0⟩=x at *
  simp only [List.length_cons,List.length_nil]
  (repeat' (first|refine And.intro ?_ ?_|intro _))<;>first|omega|exact True.intro|exact False.elim ‹False›|skip
  all_goals first
    |exact hs
    |exact hA (i+1,_) ⟨by simp only;omega,by simp only;rw [hy,h2]⟩ (by simp only;omega)
def Ye (I:Alg) (args:List D) (hp:List HO):Option CT:=match args,hp with
  |[.v (.one (.ptr 0 0))],[.obj 90 [(.row 1),(.p (.int .i64 n))],.row .upl 67 l]=>(fun(l:List Upl) (n:Int)=>(some (.one ⟨I.hid (zy l n),(.ret (.v (.one (.row 2)))),[.obj 90 [(.row 1),(.p (.int .i64 n))],.row .upl 67 l,.row .upl 67 l]⟩):Option CT)) l n
  |_,_=>none
theorem zaB:zo Tryz.prog 15 (Ye alg):=by
  intro args hp r h
  unfold Ye at h
  split at h
  · cases h;exact fun hn=>zgI _ _ hn
  · cases h
def rX:Know Tryz.prog:=⟨15,Ye,zaB⟩
def rW:Know Tryz.prog:=⟨15,fun I=>zu I (Ye I),zf zaB⟩
theorem zmo (l:List Upl) (n:Int) (hneed:zy l n):Spc Tryz.prog 15 [.v (.one (.ptr 0 0))] [.pack [.obj 90 [(.row 1),(.p (.int .i64 n))],.row .upl 67 l]] (.ret (.v (.one (.row 1)))) [.pack [.obj 90 [(.row 1),(.p (.int .i64 n))],.row .upl 67 l],.row .upl 67 l]:=
  Spc.packed (os':=[_,_]) (ex:=[_]) (zgI l n hneed) rfl (by simp) rfl
def Wx (I:Alg) (args:List D) (hp:List HO):Option CT:=match args,hp with
  |[.v (.one (.ptr 0 0))],[.pack [.obj 90 [(.row 1),(.p (.int .i64 n))],.row .upl 67 l]]=>(fun(l:List Upl) (n:Int)=>(some (.one ⟨I.hid (zy l n),(.ret (.v (.one (.row 1)))),[.pack [.obj 90 [(.row 1),(.p (.int .i64 n))],.row .upl 67 l],.row .upl 67 l]⟩):Option CT)) l n
  |_,_=>none
theorem zdC:zo Tryz.prog 15 (Wx alg):=by
  intro args hp r h
  unfold Wx at h
  split at h
  · cases h;exact fun hn=>zmo _ _ hn
  · cases h
def Yd:Know Tryz.prog:=⟨15,Wx,zdC⟩
def Yc:Know Tryz.prog:=⟨15,fun I=>zu I (Wx I),zf zdC⟩
theorem zmq (l:List Upl) (n:Int) (hneed:zy l n):Spc Tryz.prog 115 [.v (.one (.ptr 0 0))] [.pack [.obj 90 [(.row 1),(.p (.int .i64 n))],.row .upl 67 l]] (.ret (.v (.one (.ptr 1 0)))) [.pack [.obj 90 [(.row 1),(.p (.int .i64 n))],.row .upl 67 l],.pack [.obj 90 [(.row 1),(.p (.int .i64 n))],.row .upl 67 l]]:=by
  refine spcG zi mixed Tryz.func115 (by kernel_rfl) { sU with keep:=some [0,2]} [rX,rW,Yd,Yc] (by kernel_rfl) ?_
  intro I X hI hX
  refine zh (.both (.need (I.hid (α:=(Prop)) (zy l n)) (.fin (.ret (.v (.one (.ptr 1 0)))) [(.pack [(.obj 90 [(.row 1),(.p (.int .i64 n))]),(.row .upl 67 l)]),(.pack [(.obj 90 [(.row 1),(.p (.int .i64 n))]),(.row .upl 67 l)])])) (.need (I.hid (α:=(Prop)) (zy l n)) (.fin (.ret (.v (.one (.ptr 1 0)))) [(.pack [(.obj 90 [(.row 1),(.p (.int .i64 n))]),(.row .upl 67 l)]),(.pack [(.obj 90 [(.row 1),(.p (.int .i64 n))]),(.row .upl 67 l)])]))) (by kernel_rfl) ?_
  simp only [zl]
  subst hI
  simp only [nrmA,nrmB,nrlB,reduceCtorEq,HO.pack.injEq,HO.obj.injEq]
  exact⟨hneed,hneed⟩
def WB (I:Alg) (args:List D) (hp:List HO):Option CT:=match args,hp with
  |[.v (.one (.ptr 0 0))],[.pack [.obj 90 [(.row 1),(.p (.int .i64 n))],.row .upl 67 l]]=>(fun(l:List Upl) (n:Int)=>(some (.one ⟨I.hid (zy l n),(.ret (.v (.one (.ptr 1 0)))),[.pack [.obj 90 [(.row 1),(.p (.int .i64 n))],.row .upl 67 l],.pack [.obj 90 [(.row 1),(.p (.int .i64 n))],.row .upl 67 l]]⟩):Option CT)) l n
  |_,_=>none
theorem zdF:zo Tryz.prog 115 (WB alg):=by
  intro args hp r h
  unfold WB at h
  split at h
  · cases h;exact fun hn=>zmq _ _ hn
  · cases h
def zjo:Know Tryz.prog:=⟨115,WB,zdF⟩
def zjn:Know Tryz.prog:=⟨115,fun I=>zu I (WB I),zf zdF⟩
theorem zmg (a b:Int) (m y:Str) (t d:Int):Spc Tryz.prog 106 [.v (.agg [(.p (.int .i64 a)),(.p (.int .i64 b)),(.p (.str m)),(.p (.list .byte y)),(.p (.int .i64 t))]),.v (.one (.ptr 0 0))] [.pack [.obj 3 [(.p (.int .i64 d))]]] (.ret (.v (.one (.p (.bool ((a == d))))))) [.pack [.obj 3 [(.p (.int .i64 d))]]]:=by
  refine spcG zi mixed Tryz.func106 (by kernel_rfl) { keep:=some [0,1,2,3]} [] (by kernel_rfl) ?_
  intro I X hI hX
  refine zh (.fin (.ret (.v (.one (.p (.bool (I.ieq a d)))))) [(.pack [(.obj 3 [(.p (.int .i64 d))])])]) (by kernel_rfl) ?_
  simp only [zl]
  subst hI
  simp only [nrmA,nrmB,nrlB,reduceCtorEq,HO.pack.injEq,HO.obj.injEq]
def X6 (I:Alg) (args:List D) (hp:List HO):Option CT:=match args,hp with
  |[.v (.agg [(.p (.int .i64 a)),(.p (.int .i64 b)),(.p (.str m)),(.p (.list .byte y)),(.p (.int .i64 t))]),.v (.one (.ptr 0 0))],[.pack [.obj 3 [(.p (.int .i64 d))]]]=>(fun(a b:Int) (m y:Str) (t d:Int)=>(some (.one ⟨I.hid (True),(.ret (.v (.one (.p (.bool (I.hid ((a == d)))))))),[.pack [.obj 3 [(.p (.int .i64 d))]]]⟩):Option CT)) a b m y t d
  |_,_=>none
theorem zdo:zo Tryz.prog 106 (X6 alg):=by
  intro args hp r h
  unfold X6 at h
  split at h
  · cases h;exact fun hn=>zmg _ _ _ _ _ _
  · cases h
def ZY:Know Tryz.prog:=⟨106,X6,zdo⟩
def zjd:Know Tryz.prog:=⟨106,fun I=>zu I (X6 I),zf zdo⟩
theorem zmf (l:List Upl) (d:Int) (hneed:l.length≤1000000):Spc Tryz.prog 97 [.v (.one (.p (.list .upl l))),.v (.one (.fn 106 [.ptr 0 0]))] [.pack [.obj 3 [(.p (.int .i64 d))]]] (.ret (.v (.one (.p (.int .i64 ((ixU l d))))))) [.pack [.obj 3 [(.p (.int .i64 d))]]]:=by
  refine spcG zi mixed Tryz.func97 (by kernel_rfl) { keep:=some [0,1,4,5,7,8]} [ZY,YX,YW] (by kernel_rfl) ?_
  intro I X hI hX
  refine zh (.code 0 [1,0,1,0] ⟨[(8,(.v (.one (.p (.int .i64 0))))),(7,(.v (.one (.p (.int .i64 (I.len (α:=Go.Ab.Upl) l)))))),(4,(.v (.one (.p (.int .i64 0))))),(0,(.v (.one (.p (.list .upl l))))),(1,(.v (.one (.fn 106 [(.ptr 0 0)]))))],[(.pack [(.obj 3 [(.p (.int .i64 d))])])],19,none⟩) (by kernel_rfl) ?_
  simp only [zl]
  refine zA hI zi mixed [ZY,YX,YW] hX [0,1,7,8] (fun(i:Nat)=>i≤l.length∧i≤atU l d) (fun(i:Nat)=>⟨[(0,.v (.one (.p (.list .upl l)))),(1,.v (.one (.fn 106 [.ptr 0 0]))),(7,.v (.one (.p (.int .i64 ((I.len (α:=Upl) l)))))),(8,.v (.one (.p (.int .i64 i))))],[.pack [.obj 3 [(.p (.int .i64 d))]]],19,none⟩) (fun(i:Nat)=>l.length - i) 0 (by kernel_rfl) (by kernel_rfl) ?_ ?_
  · exact⟨Nat.zero_le _,Nat.zero_le _⟩
  rintro i ⟨h1,h2⟩ A hA
  refine zh (let y0:=I.inb (Nat.cast i) (I.len (α:=Go.Ab.Upl) l);.br (I.ilt (Nat.cast i) (I.len (α:=Go.Ab.Upl) l)) (.need y0 (.need y0 (.need (I.hid (α:=(Prop)) True) (.br (I.hid (α:=Bool) (BEq.beq (Go.Ab.Upl.id (I.get (α:=Go.Ab.Upl) l (Go.Ab.Upl.mk (0:Int) (0:Int) ([]:List UInt8) ([]:List UInt8) (0:Int)) (Nat.cast i))) d)) (.fin (.ret (.v (.one (.p (.int .i64 (Nat.cast i)))))) [(.pack [(.obj 3 [(.p (.int .i64 d))])])]) (.need (I.inr Go.IntKind.i64 (I.add (Nat.cast i) 1)) (.need (A ⟨[(0,(.v (.one (.p (.list .upl l))))),(1,(.v (.one (.fn 106 [(.ptr 0 0)])))),(7,(.v (.one (.p (.int .i64 (I.len (α:=Go.Ab.Upl) l)))))),(8,(.v (.one (.p (.int .i64 (I.add (Nat.cast i) 1))))))],[(.pack [(.obj 3 [(.p (.int .i64 d))])])],19,none⟩) .qed)))))) (.fin (.ret (.v (.one (.p (.int .i64 (Neg.neg (1:Int))))))) [(.pack [(.obj 3 [(.p (.int .i64 d))])])])) (by kernel_rfl) ?_
  simp only [zl]
  subst hI
  simp only [nrmA,nrmB]
  have hx:=fun h=>QW (l:=l) (id:=d) (i:=i) h h2
  have hle:=YL l d
  have e0:(⟨0,0,[],[],0⟩:Upl)=upl0:=rfl
  simp only [e0]
  unfold ixU
  (repeat' (first|refine And.intro ?_ ?_|intro _))<;>first|omega|exact True.intro|exact False.elim ‹False›|skip
  all_goals first
    |(have h3:=hx (by omega);rw [if_pos (by assumption)] at h3;rw [if_pos (by omega),h3])
    |(have h3:=hx (by omega);rw [if_neg (by assumption)] at h3;exact hA (i+1) ⟨by omega,h3⟩ (by omega))
    |(rw [if_neg (by omega)])
def X5 (I:Alg) (args:List D) (hp:List HO):Option CT:=match args,hp with
  |[.v (.one (.p (.list .upl l))),.v (.one (.fn 106 [.ptr 0 0]))],[.pack [.obj 3 [(.p (.int .i64 d))]]]=>(fun(l:List Upl) (d:Int)=>(some (.one ⟨I.hid (l.length≤1000000),(.ret (.v (.one (.p (.int .i64 (I.hid ((ixU l d)))))))),[.pack [.obj 3 [(.p (.int .i64 d))]]]⟩):Option CT)) l d
  |_,_=>none
theorem zdn:zo Tryz.prog 97 (X5 alg):=by
  intro args hp r h
  unfold X5 at h
  split at h
  · cases h;exact fun hn=>zmf _ _ hn
  · cases h
def zdm:Know Tryz.prog:=⟨97,X5,zdn⟩
def zdl:Know Tryz.prog:=⟨97,fun I=>zu I (X5 I),zf zdn⟩
def notU (d:Int) (u:Upl):Bool:= !(u.id == d)
theorem zmh (l:List Upl) (d:Int) (hneed:l.length≤1000000):Spc Tryz.prog 105 [.v (.one (.row 0)),.v (.one (.fn 106 [.ptr 1 0]))] [.row .upl 67 l,.pack [.obj 3 [(.p (.int .i64 d))]]] (.ret (.v (.one (.row 2)))) [.gone,.pack [.obj 3 [(.p (.int .i64 d))]],.row .upl 67 ((l.filter (notU d)))]:=by
  refine spcG zi mixed Tryz.func105 (by kernel_rfl) { mv:=[0],cut:=[4],keep:=some [0,1,4,5,6,7]} [ZY,YX,YW,zdm,zdl] (by kernel_rfl) ?_
  intro I X hI hX
  refine zh (let y0:=I.add (I.hid (α:=Int) (ixU l d)) 1;.need (I.hid (α:=(Prop)) (LE.le (List.length l) 1000000)) (.br (I.ieq (I.hid (α:=Int) (ixU l d)) (Neg.neg (1:Int))) (.fin (.ret (.v (.one (.row 2)))) [.gone,(.pack [(.obj 3 [(.p (.int .i64 d))])]),(.row .upl 67 l)]) (.need (I.inr Go.IntKind.i64 y0) (.code 0 [1,1,1,0,1,0] ⟨[(6,(.v (.one (.p (.int .i64 y0))))),(5,(.v (.one (.p (.int .i64 (I.hid (α:=Int) (ixU l d))))))),(4,(.v (.one .nilS))),(0,(.v (.one (.row 0)))),(1,(.v (.one (.fn 106 [(.ptr 1 0)]))))],[(.row .upl 67 l),(.pack [(.obj 3 [(.p (.int .i64 d))])])],42,none⟩)))) (by kernel_rfl) ?_
  simp only [zl]
  have hfd: ∀ i,i≤atU l d→(l.take i).filter (notU d)=l.take i:=fun i hi=>List.filter_eq_self.2 fun u hu=>by
    obtain⟨j,hj⟩:=List.getElem?_of_mem hu
    rw [List.getElem?_take] at hj
    split at hj
    · rename_i hji
      obtain⟨hjl,he⟩:=List.getElem?_eq_some_iff.1 hj
      have:=List.not_of_lt_findIdx (p:=fun u:Upl=>u.id == d) (xs:=l) (i:=j) (by unfold atU at hi;omega)
      rw [← he]
      simpa [notU] using this
    · cases hj
  by_cases hk:atU l d<l.length
  · have hix:=ZC hk
    have e1:I.hid (ixU l d)=((atU l d:Nat):Int):=by subst hI;exact hix
    have e2:I.add ((atU l d:Nat):Int) 1=((atU l d+1:Nat):Int):=by subst hI;rfl
    rw [e1,e2]
    have hst:(l.take (atU l d+1)).filter (notU d)=l.take (atU l d):=by
      rw [List.take_succ_eq_append_getElem hk,List.filter_append,hfd _ (Nat.le_refl _)]
      have:=ZJ hk
      rw [xq hk] at this
      simp [notU,this]
    have hu0:=ZJ hk
    generalize atU l d=k at *
    refine⟨by subst hI;exact hneed,fun h=> ?_,fun _=>⟨by subst hI;rw [ZI,Ud,Ue];omega,?_⟩⟩
    · subst hI
      simp only [nrmA,nrmB] at h
      omega
    refine zA hI zi mixed [ZY,YX,YW,zdm,zdl] hX [0,1,5,6] (fun(g:Nat × Nat × List Upl)=>match g with|(i,j,c)=>i<j∧j≤l.length∧c.length=l.length∧c.take i=(l.take j).filter (notU d)∧c.drop j=l.drop j) (fun(g:Nat × Nat × List Upl)=>match g with|(i,j,c)=>⟨[(0,.v (.one (.row 2))),(1,.v (.one (.fn 106 [.ptr 1 0]))),(5,.v (.one (.p (.int .i64 i)))),(6,.v (.one (.p (.int .i64 j))))],[.gone,.pack [.obj 3 [(.p (.int .i64 d))]],.row .upl 67 c],42,none⟩) (fun(g:Nat × Nat × List Upl)=>match g with|(i,j,c)=>l.length - j) (k,k+1,l) (by kernel_rfl) (by kernel_rfl) ?_ ?_
    · exact⟨by omega,by omega,rfl,hst.symm,rfl⟩
    rintro⟨i,j,c⟩ ⟨h1,h2,h3,h4,h5⟩ A hA
    simp only at hA h1 h2 h3 h4 h5
    refine zh (let y0:=I.get (α:=Go.Ab.Upl) c (Go.Ab.Upl.mk (0:Int) (0:Int) ([]:List UInt8) ([]:List UInt8) (0:Int)) (Nat.cast j);let y1:=I.rep (α:=Go.Ab.Upl) (I.sub (I.len (α:=Go.Ab.Upl) c) (Int.ofNat i)) (Go.Ab.Upl.mk (0:Int) (0:Int) ([]:List UInt8) ([]:List UInt8) (0:Int));let y2:=I.cut (α:=Go.Ab.Upl) c (I.len (α:=Go.Ab.Upl) c) (I.len (α:=Go.Ab.Upl) c);let y3:=I.cutb (Int.ofNat i) (I.len (α:=Go.Ab.Upl) c) (I.len (α:=Go.Ab.Upl) c);let y4:=I.inb (Nat.cast j) (I.len (α:=Go.Ab.Upl) c);let y5:=I.inb (Nat.cast i) (I.len (α:=Go.Ab.Upl) c);let y6:=I.inr Go.IntKind.i64 (I.add (Nat.cast j) 1);let y7:=I.cut (α:=Go.Ab.Upl) c 0 (Int.ofNat i);.br (I.ilt (Nat.cast j) (I.len (α:=Go.Ab.Upl) c)) (.need y4 (.need y4 (.need (I.hid (α:=(Prop)) True) (.br (I.bnot (I.hid (α:=Bool) (BEq.beq (Go.Ab.Upl.id y0) d))) (.need y5 (.need y5 (.need (I.inr Go.IntKind.i64 (I.add (Nat.cast i) 1)) (.need y6 (.need (A ⟨[(0,(.v (.one (.row 2)))),(1,(.v (.one (.fn 106 [(.ptr 1 0)])))),(5,(.v (.one (.p (.int .i64 (I.add (Nat.cast i) 1)))))),(6,(.v (.one (.p (.int .i64 (I.add (Nat.cast j) 1))))))],[.gone,(.pack [(.obj 3 [(.p (.int .i64 d))])]),(.row .upl 67 (I.set (α:=Go.Ab.Upl) c (Nat.cast i) (Go.Ab.Upl.mk (Go.Ab.Upl.id y0) (Go.Ab.Upl.size y0) (Go.Ab.Upl.note y0) (Go.Ab.Upl.bytes y0) (Go.Ab.Upl.sent y0))))],42,none⟩) .qed))))) (.need y6 (.need (A ⟨[(0,(.v (.one (.row 2)))),(1,(.v (.one (.fn 106 [(.ptr 1 0)])))),(5,(.v (.one (.p (.int .i64 (Nat.cast i)))))),(6,(.v (.one (.p (.int .i64 (I.add (Nat.cast j) 1))))))],[.gone,(.pack [(.obj 3 [(.p (.int .i64 d))])]),(.row .upl 67 c)],42,none⟩) .qed)))))) (.need y3 (.need y3 (.need (I.cutb 0 (Int.ofNat i) (I.len (α:=Go.Ab.Upl) (I.app (α:=Go.Ab.Upl) y7 (I.app (α:=Go.Ab.Upl) y1 y2)))) (.need (I.same (α:=Int) 0 0) (.fin (.ret (.v (.one (.row 2)))) [.gone,(.pack [(.obj 3 [(.p (.int .i64 d))])]),(.row .upl 67 (I.cut (α:=Go.Ab.Upl) (I.app (α:=Go.Ab.Upl) y7 (I.app (α:=Go.Ab.Upl) y1 y2)) 0 (Int.ofNat i)))])))))) (by kernel_rfl) ?_
    simp only [zl]
    subst hI
    simp only [nrmA,nrmB,nrlB,reduceCtorEq]
    have hx:j<l.length→c.getD j ⟨0,0,[],[],0⟩=l.getD j ⟨0,0,[],[],0⟩:=fun h=>by
      have e:=congrArg (fun m:List Upl=>m[0]?) h5
      simp only [List.getElem?_drop,Nat.add_zero] at e
      simp only [List.getD_eq_getElem?_getD,e]
    have hf:j<l.length→(l.take (j+1)).filter (notU d)=(l.take j).filter (notU d)++(if notU d (l.getD j ⟨0,0,[],[],0⟩) then [l.getD j ⟨0,0,[],[],0⟩] else []):=fun h=>by
      rw [List.take_succ_eq_append_getElem h,List.filter_append]
      simp [h,List.filter_cons]
    have hdr: ∀ c':List Upl,c'.drop j=l.drop j→c'.drop (j+1)=l.drop (j+1):=fun c' h=>by
      have:=congrArg (List.drop 1) h
      simpa [List.drop_drop] using this
    have hend: ¬ j<l.length→c.take i=l.filter (notU d):=fun h=>by rw [h4,List.take_of_length_le (by omega)]
    rw [show(c.length:Int)=(l.length:Int) by rw [h3]]
    have hset: ∀ u:Upl,i<c.length→(c.set i u).take (i+1)=c.take i++[u]:=fun u h=>by
      rw [List.take_succ_eq_append_getElem (by rw [List.length_set];exact h),List.getElem_set_self,List.take_set_of_le (Nat.le_refl _)]
    have hsd: ∀ u:Upl,(c.set i u).drop j=l.drop j:=fun u=>by rw [List.drop_set_of_lt h1,h5]
    refine⟨fun c1=> ?_,fun c1=> ?_⟩
    · have hj:j<l.length:=by omega
      rw [hx hj]
      have hf:=hf hj
      generalize l.getD j ⟨0,0,[],[],0⟩=x at *
      (repeat' (first|refine And.intro ?_ ?_|intro _))<;>first|omega|exact True.intro|exact False.elim ‹False›|skip
      · rename_i hne
        refine hA (i+1,j+1,c.set i x) ⟨by simp only;omega,by simp only;omega,by simp only [List.length_set];exact h3,?_,hdr _ (hsd x)⟩ (by simp only;omega)
        simp only
        rw [hset x (by omega),hf,if_pos (by simp [notU,hne]),h4]
      · rename_i heq
        refine hA (i,j+1,c) ⟨by simp only;omega,by simp only;omega,h3,?_,hdr _ h5⟩ (by simp only;omega)
        simp only
        rw [hf,if_neg (by simp [notU,heq]),List.append_nil,h4]
    · have he:=hend (by omega)
      have hl:(c.take i).length=i:=by rw [List.length_take];omega
      (repeat' (first|refine And.intro ?_ ?_|intro _))<;>first|omega|exact True.intro|exact False.elim ‹False›|skip
      all_goals first
        |(simp only [List.length_append,List.length_take,List.length_replicate];omega)
        |(rw [List.take_append_of_le_length (by omega),List.take_take,Nat.min_self,he])
  · have hix:=ZE hk
    have e1:I.hid (ixU l d)=(-1:Int):=by subst hI;exact hix
    rw [e1]
    have hall:l.filter (notU d)=l:=by
      have:=hfd l.length (by have:=YL l d;omega)
      rwa [List.take_length] at this
    rw [hall]
    refine⟨by subst hI;exact hneed,fun _=>⟨trivial,rfl⟩,fun h=> ?_⟩
    subst hI
    simp [alg] at h
def X7 (I:Alg) (args:List D) (hp:List HO):Option CT:=match args,hp with
  |[.v (.one (.row 0)),.v (.one (.fn 106 [.ptr 1 0]))],[.row .upl 67 l,.pack [.obj 3 [(.p (.int .i64 d))]]]=>(fun(l:List Upl) (d:Int)=>(some (.one ⟨I.hid (l.length≤1000000),(.ret (.v (.one (.row 2)))),[.gone,.pack [.obj 3 [(.p (.int .i64 d))]],.row .upl 67 (I.hid ((l.filter (notU d))))]⟩):Option CT)) l d
  |_,_=>none
theorem zdp:zo Tryz.prog 105 (X7 alg):=by
  intro args hp r h
  unfold X7 at h
  split at h
  · cases h;exact fun hn=>zmh _ _ hn
  · cases h
def zjf:Know Tryz.prog:=⟨105,X7,zdp⟩
def zje:Know Tryz.prog:=⟨105,fun I=>zu I (X7 I),zf zdp⟩
theorem zmp (l:List Upl) (n id:Int) (hneed:zy l n):Spc Tryz.prog 74 [.v (.one (.ptr 0 0)),.v (.one (.p (.int .i64 id)))] [.pack [.obj 90 [(.row 1),(.p (.int .i64 n))],.row .upl 67 l]] (.ret (.v (.one (.p (.int .i64 ((droC l id))))))) [.pack [.obj 90 [(.row 1),(.p (.int .i64 n))],.row .upl 67 ((droL l id))]]:=by
  have hs:=hneed
  have hf:=xU hs
  have hfl:l.filter (notU id)=droL l id:=zh2 hs.srt id
  generalize he:droC l id=re
  generalize hl:droL l id=rl at hfl
  refine spcG zi mixed Tryz.func74 (by kernel_rfl) { sU with bare:=[66],keep:=some [0,1,3,4,6]} [Tc,U9,ZY,zjd,zjf,zje] (by kernel_rfl) ?_
  intro I X hI hX
  refine zh (let y0:=I.hid (α:=(List Go.Ab.Upl)) (List.filter (notU id) l);let y1:=I.hid (α:=(Prop)) (LE.le (List.length l) 1000000);.br (I.hid (α:=Bool) (Decidable.decide (LT.lt (atU l id) (List.length l)))) (.need (I.hid (α:=(Prop)) (And (LE.le (List.length l) 1000000) (LT.lt (atU l id) (List.length l)))) (.br (I.bnot (I.ieq 0 0)) (.fin (.ret (.v (.one (.p (.int .i64 0))))) [(.pack [(.obj 90 [(.row 1),(.p (.int .i64 n))]),(.row .upl 67 l)])]) (.need y1 (.fin (.ret (.v (.one (.p (.int .i64 0))))) [(.pack [(.obj 90 [(.row 1),(.p (.int .i64 n))]),(.row .upl 67 y0)])])))) (.need (I.hid (α:=(Prop)) (And (LE.le (List.length l) 1000000) (Not (LT.lt (atU l id) (List.length l))))) (.br (I.bnot (I.ieq 10 0)) (.fin (.ret (.v (.one (.p (.int .i64 10))))) [(.pack [(.obj 90 [(.row 1),(.p (.int .i64 n))]),(.row .upl 67 l)])]) (.need y1 (.fin (.ret (.v (.one (.p (.int .i64 0))))) [(.pack [(.obj 90 [(.row 1),(.p (.int .i64 n))]),(.row .upl 67 y0)])]))))) (by kernel_rfl) ?_
  simp only [zl]
  subst hI
  simp only [nrmA,nrmB,nrlB,reduceCtorEq,HO.pack.injEq,HO.obj.injEq]
  unfold droC at he
  (repeat' (first|refine And.intro ?_ ?_|intro _))<;>first|omega|exact True.intro|exact False.elim ‹False›|skip
  all_goals first
    |exact hf.1
    |exact hfl
    |((repeat(first|rewrite [if_pos (by first|omega|assumption|(simp only [*,or_self,or_true,true_or,or_false,false_or,not_true_eq_false,not_false_eq_true,Bool.false_eq_true,Bool.true_eq_false,and_self,and_true,true_and];done)|(simp only [*];omega)|(simp [*];done)|(simp [*];omega))] at he|rewrite [if_neg (by first|omega|assumption|(simp only [*,or_self,or_true,true_or,or_false,false_or,not_true_eq_false,not_false_eq_true,Bool.false_eq_true,Bool.true_eq_false,and_self,and_true,true_and];done)|(simp only [*];omega)|(simp [*];done)|(simp [*];omega))] at he));subst he;rfl)
    |(rw [← hl];unfold droL;rw [List.eraseIdx_of_length_le (by omega)])
def WA (I:Alg) (args:List D) (hp:List HO):Option CT:=match args,hp with
  |[.v (.one (.ptr 0 0)),.v (.one (.p (.int .i64 id)))],[.pack [.obj 90 [(.row 1),(.p (.int .i64 n))],.row .upl 67 l]]=>(fun(l:List Upl) (n id:Int)=>(some (.one ⟨I.hid (zy l n),(.ret (.v (.one (.p (.int .i64 (I.hid ((droC l id)))))))),[.pack [.obj 90 [(.row 1),(.p (.int .i64 n))],.row .upl 67 (I.hid ((droL l id)))]]⟩):Option CT)) l n id
  |_,_=>none
theorem zdE:zo Tryz.prog 74 (WA alg):=by
  intro args hp r h
  unfold WA at h
  split at h
  · cases h;exact fun hn=>zmp _ _ _ hn
  · cases h
def zjl:Know Tryz.prog:=⟨74,WA,zdE⟩
def zjk:Know Tryz.prog:=⟨74,fun I=>zu I (WA I),zf zdE⟩
end Go.Proofs.YtcclfkakcgnacaaGreatDoor
namespace Go.Jrn
open Go Go.Ab
def sevF:Nat→Nat→Str
  |0,u=>[UInt8.ofNat u]
  |f+1,u=>if u<128 then [UInt8.ofNat u] else UInt8.ofNat (u % 128+128)::sevF f (u / 128)
def sev (u:Nat):Str:=sevF 9 u
theorem zax: ∀ (f u:Nat),u<128 ^ (f+1)→∀ g,f≤g→sevF g u=sevF f u
  | 0,u,h,g,_=>by
    cases g with
    |zero=>rfl
    |succ g=>simp only [sevF];rw [if_pos (by simpa using h)]
  | f +1,u,h,g,hg=>by
    cases g with
    |zero=>omega
    | succ g=>
      rw [sevF,sevF]
      split
      · rfl
      · rw [zax f (u / 128) (by rw [Nat.div_lt_iff_lt_mul (by omega)];rw [Nat.pow_succ] at h;exact h) g (by omega)]
theorem uM {u:Nat} (h:u<128):sev u=[UInt8.ofNat u]:=by rw [sev,sevF,if_pos h]
theorem VE {u:Nat} (h:128≤u) (hu:u<128 ^ 9):sev u=UInt8.ofNat (u % 128+128)::sev (u / 128):=by
  rw [sev,sevF,if_neg (by omega),sev,zax 8 (u / 128) (Nat.lt_of_le_of_lt (Nat.div_le_self _ _) hu) 9 (by omega)]
theorem yC (u:Nat):1≤(sev u).length∧(sev u).length≤10:=by
  have h: ∀ f u,1≤(sevF f u).length∧(sevF f u).length≤f+1:=by
    intro f
    induction f with
    |zero=>intro u;exact⟨Nat.le_refl _,Nat.le_refl _⟩
    | succ f ih=>
      intro u
      rw [sevF]
      split
      · simp
      · have:=ih (u / 128);simp;omega
  exact h 9 u
def numF (i u:Nat):Str→Int × Str × Bool
  |[]=>(0,[],false)
  | c::r=>if 5≤i then(0,[],false) else
    if c.toNat<128 then((u+c.toNat * 128 ^ i:Nat) - 1,r,decide (i=0∨0<c.toNat)) else numF (i+1) (u+c.toNat % 128 * 128 ^ i) r
def num (b:Str):Int × Str × Bool:=numF 0 0 b
def numK (i:Nat):Str→Nat
  |[]=>i
  |c::r=>if 5≤i then i else if c.toNat<128 then i+1 else numK (i+1) r
theorem VW (b:Str): ∀ (i u:Nat) (l:Str),b.drop i=l→(numF i u l).2.2=true→(numF i u l).2.1=b.drop (numK i l)∧i<numK i l
  |i,u,[],h,ht=>by simp [numF] at ht
  | i, u,c::r,h,ht=>by
    rw [numF] at ht ⊢
    rw [numK]
    split at ht
    · cases ht
    · rename_i h5
      rw [if_neg h5,if_neg h5]
      have hr:b.drop (i+1)=r:=by rw [← List.drop_drop,h];rfl
      split
      · rename_i hc;rw [if_pos hc] at ht;exact⟨hr.symm,by omega⟩
      · rename_i hc
        rw [if_neg hc] at ht
        have:=VW b (i+1) _ r hr ht
        exact⟨this.1,by omega⟩
theorem zhi {b:Str} {i:Nat} (u:Nat) (h:i<b.length) (h5:i<5):numF i u (b.drop i)=
    if(b.getD i 0).toNat<128 then(((u+(b.getD i 0).toNat * 128 ^ i:Nat):Int) - 1,b.drop (i+1),decide (i=0∨0<(b.getD i 0).toNat)) else numF (i+1) (u+(b.getD i 0).toNat % 128 * 128 ^ i) (b.drop (i+1)):=by
  rw [List.drop_eq_getElem_cons h,numF,if_neg (by omega)]
  have:b.getD i 0=b[i]:=by simp [h]
  rw [this]
theorem numK_step {b:Str} {i:Nat} (h:i<b.length) (h5:i<5):numK i (b.drop i)=if(b.getD i 0).toNat<128 then i+1 else numK (i+1) (b.drop (i+1)):=by
  rw [List.drop_eq_getElem_cons h,numK,if_neg (by omega)]
  have:b.getD i 0=b[i]:=by simp [h]
  rw [this]
theorem zjB {b:Str} {i:Nat} (u:Nat) (h:b.length≤i∨5≤i):numF i u (b.drop i)=(0,[],false):=by
  cases hd:b.drop i with
  |nil=>rfl
  | cons c r=>
    have:i<b.length:=by
      rcases Nat.lt_or_ge i b.length with h1|h1
      · exact h1
      · rw [List.drop_of_length_le h1] at hd;cases hd
    rw [numF,if_pos (by omega)]
def few (n:Int):Bool:=decide (-1≤n)&&decide (n<1073741824)
def mayM (e:Ent):Bool:=decide (1≤e.kind)&&decide (e.kind≤6)&&few e.id&&few e.n&&decide (e.text.length<1048576)
def enc3 (e:Ent):Str:=sev (e.kind+1).toNat++sev (e.id+1).toNat++sev (e.n+1).toNat++e.text
def encB (e:Ent):Str:=sev ((enc3 e).length+1)++enc3 e
def encM (e:Ent):Str:=if mayM e then encB e else []
def encC (e:Ent):Int:=if mayM e then 0 else 1
def three (b:Str):Option (Int × Int × Int × Str):=
  match num b with
  | (k,r,true)=>(match num r with
    | (i,r,true)=>(match num r with
      |(n,r,true)=>some (k,i,n,r)
      |_=>none)
    |_=>none)
  |_=>none
def thr (j:Nat) (a b c:Int) (s:Str):Option (Int × Int × Int × Str):=
  match j with
  |0=>three s
  | 1 =>(match num s with
    | (i,r,true)=>(match num r with
      |(n,r,true)=>some (a,i,n,r)
      |_=>none)
    |_=>none)
  | 2=>(match num s with
    |(n,r,true)=>some (a,b,n,r)
    |_=>none)
  |_=>some (a,b,c,s)
def oneX (b:Str):Ent × Str × Bool:=
  match num b with
  | (n,r,true)=>if n<0∨(r.length:Int)<n then(⟨0,0,0,[]⟩,[],false) else
    match three (r.take n.toNat) with
    |some (k,i,m,t)=>(⟨k,i,m,t⟩,r.drop n.toNat,mayM ⟨k,i,m,t⟩)
    |none=>(⟨0,0,0,[]⟩,[],false)
  |_=>(⟨0,0,0,[]⟩,[],false)
def oneM (b:Str):Option (Ent × Str):=if(oneX b).2.2 then some ((oneX b).1,(oneX b).2.1) else none
def decF:Nat→Str→List Ent × Str
  |0,b=>([],b)
  | f+1,b=>match oneM b with
    |some (e,r)=>(e::(decF f r).1,(decF f r).2)
    |none=>([],b)
def dec (b:Str):List Ent × Str:=decF b.length b
theorem VS {b:Str} (h:(num b).2.2=true):(num b).2.1.length<b.length:=by
  obtain⟨h1,h2⟩:=VW b 0 0 b rfl h
  rw [num,h1,List.length_drop]
  cases b with
  |nil=>simp [num,numF] at h
  |cons c r=>simp;omega
theorem zhj: ∀ (l:Str) (i u:Nat),(numF i u l).2.1.length≤l.length
  |[],i,u=>Nat.le_refl _
  | c ::r,i,u=>by
    rw [numF]
    split
    · simp
    · split
      · simp
      · have:=zhj r (i+1) (u+c.toNat % 128 * 128 ^ i);simp;omega
theorem VT (b:Str):(num b).2.1.length≤b.length:=zhj b 0 0
theorem zg9 {b:Str} (h:(oneX b).2.2=true):(oneX b).2.1.length<b.length:=by
  unfold oneX at h ⊢
  split at h
  · rename_i n r0 hn
    have:=VS (b:=b) (by rw [hn])
    rw [hn] at this
    simp only at this
    split at h
    · cases h
    · rename_i hc
      rw [if_neg hc]
      split at h
      · rename_i ht;simp only [ht];simp;omega
      · cases h
  · cases h
theorem RV {b:Str} {e:Ent} {r:Str} (h:oneM b=some (e,r)):r.length<b.length:=by
  unfold oneM at h
  split at h
  · rename_i hx
    simp only [Option.some.injEq,Prod.mk.injEq] at h
    rw [← h.2];exact zg9 hx
  · cases h
theorem zhb {s:Str} (h:(num s).2.2=false):oneM s=none:=by
  rw [oneM,oneX,show num s=((num s).1,(num s).2.1,false) by rw [← h]];rfl
theorem zjA {s:Str} (h:(num s).1<0∨((num s).2.1.length:Int)<(num s).1):oneM s=none:=by
  cases hk:(num s).2.2 with
  |false=>exact zhb hk
  | true=>
    have hx:oneX s=(⟨0,0,0,[]⟩,[],false):=by
      unfold oneX
      rw [show num s=((num s).1,(num s).2.1,true) by rw [← hk]]
      simp only
      rw [if_pos h]
    rw [oneM,hx];rfl
theorem zbD: ∀ (f:Nat) (b:Str),b.length≤f→∀ g,b.length≤g→decF f b=decF g b
  | 0,b,h,g,hg=>by
    have:b=[]:=List.eq_nil_of_length_eq_zero (by omega)
    subst this
    cases g with
    |zero=>rfl
    |succ g=>rfl
  | f + 1,b,h,g,hg=>by
    cases g with
    | zero=>
      have:b=[]:=List.eq_nil_of_length_eq_zero (by omega)
      subst this;rfl
    | succ g=>
      rw [decF,decF]
      cases ho:oneM b with
      |none=>rfl
      | some p=>
        obtain⟨e,r⟩:=p
        have:=RV ho
        simp only
        rw [zbD f r (by omega) g (by omega)]
theorem WX {b:Str} {e:Ent} {r:Str} (h:oneM b=some (e,r)):dec b=(e::(dec r).1,(dec r).2):=by
  have hl:=RV h
  obtain⟨n,hn⟩: ∃ n,b.length=n+1:=⟨b.length - 1,by omega⟩
  unfold dec
  rw [hn,decF,h]
  simp only
  rw [zbD n r (by omega) r.length (Nat.le_refl _)]
theorem QG {b:Str} (h:oneM b=none):dec b=([],b):=by
  unfold dec
  cases b with
  |nil=>rfl
  |cons c r=>rw [List.length_cons,decF,h]
theorem zeI: ∀ (f:Nat) (b:Str),(decF f b).1.length+(decF f b).2.length≤b.length
  |0,b=>by simp [decF]
  | f +1,b=>by
    rw [decF]
    cases ho:oneM b with
    |none=>simp
    | some p=>
      obtain⟨e,r⟩:=p
      have:=RV ho
      have:=zeI f r
      simp only [List.length_cons];omega
theorem zij (b:Str):(dec b).1.length+(dec b).2.length≤b.length:=zeI _ b
end Go.Jrn
namespace Go.Proofs.YtcclfkakcgnacaaGreatDoor
open Go Go.Sep Go.Ab Go.Jrn
set_option maxRecDepth 100000
theorem znQ: ∀ u:Nat,u<256→IntKind.u8.wrap ((BitVec.ofInt IntKind.u8.bits (u:Int)|||BitVec.ofInt IntKind.u8.bits 128).toNat:Int)=((u % 128+128:Nat):Int):=by decide+kernel
theorem znv: ∀ u:Nat,u<256→IntKind.u8.wrap ((BitVec.ofInt IntKind.u8.bits (u:Int)&&& BitVec.ofInt IntKind.u8.bits 127).toNat:Int)=((u % 128:Nat):Int):=by decide+kernel
theorem wrap_u8 (u:Nat):IntKind.u8.wrap (u:Int)=((u % 256:Nat):Int):=by
  unfold IntKind.wrap
  simp only [show IntKind.u8.signed=false by decide,show IntKind.u8.bits=8 by decide,Bool.false_and,Bool.false_eq_true,if_false]
  show(u:Int) % 256=_
  omega
theorem wrap_i64 (u:Int) (h: -9223372036854775808≤u∧u≤9223372036854775807):IntKind.i64.wrap u=u:=SC (k:=.i64) (by rw [ZI,Ud,Ue];exact h)
theorem wrap_u64 (u:Int) (h:0≤u∧u≤9223372036854775807):IntKind.u64.wrap u=u:=SC (k:=.u64) (by
  rw [ZI,show IntKind.u64.min=0 by decide,show IntKind.u64.max=18446744073709551615 by decide];omega)
theorem zmI (u x i:Nat) (hu:u<2 ^ (7 * i)) (hx:x<128) (hi:i≤4):
    IntKind.i64.wrap ((BitVec.ofInt IntKind.i64.bits (u:Int)|||BitVec.ofInt IntKind.i64.bits ((x * 2 ^ (7 * i):Nat):Int)).toNat:Int)=((u+x * 2 ^ (7 * i):Nat):Int):=by
  have h2:2 ^ (7 * i)≤2 ^ 28:=Nat.pow_le_pow_right (by omega) (by omega)
  have h3:x * 2 ^ (7 * i)≤127 * 2 ^ 28:=Nat.mul_le_mul (by omega) h2
  have e:(BitVec.ofInt IntKind.i64.bits (u:Int)|||BitVec.ofInt IntKind.i64.bits ((x * 2 ^ (7 * i):Nat):Int)).toNat=u+x * 2 ^ (7 * i):=by
    rw [BitVec.toNat_or,BitVec.ofInt_natCast,BitVec.ofInt_natCast,BitVec.toNat_ofNat,BitVec.toNat_ofNat,show IntKind.i64.bits=64 by decide,
      Nat.mod_eq_of_lt (show u<2 ^ 64 by omega),Nat.mod_eq_of_lt (show x * 2 ^ (7 * i)<2 ^ 64 by omega),Nat.or_comm,← Nat.shiftLeft_eq,← Nat.shiftLeft_add_eq_or_of_lt hu,Nat.add_comm]
  rw [e,wrap_i64]
  omega
theorem shr7 (u:Nat):(u:Int).fdiv (2 ^ min (Int.toNat 7) 64)=((u / 128:Nat):Int):=by
  show(u:Int).fdiv 128=_
  rw [Int.fdiv_eq_ediv_of_nonneg _ (by decide)]
  omega
theorem put_ (l:Str) (n:Int) (hneed: -1≤n∧n<34359738368∧l.length≤50000000):Spc Tryz.prog 142 [.v (.one (.row 0)),.v (.one (.p (.int .i64 n)))] [.row .byte 5 l] (.ret (.v (.one (.row 1)))) [.gone,.row .byte 5 ((l++sev (n+1).toNat))]:=by
  refine spcG zi mixed Tryz.func142 (by kernel_rfl) { mv:=[0],keep:=some [0,1,4,5]} [] (by kernel_rfl) ?_
  intro I X hI hX
  refine zh (.need (I.inr Go.IntKind.i64 (I.add n 1)) (.code 0 [1,1,0,0] ⟨[(5,(.v (.one (.p (.int .u64 (I.wrap Go.IntKind.u64 (I.add n 1))))))),(4,(.v (.one .nilS))),(0,(.v (.one (.row 0)))),(1,(.v (.one (.p (.int .i64 n)))))],[(.row .byte 5 l)],24,none⟩)) (by kernel_rfl) ?_
  simp only [zl]
  refine⟨(by rw [hI];simp only [nrmA,nrmB];omega),?_⟩
  refine zA hI zi mixed [] hX [0,5] (fun(g:Str × Int)=>match g with|(m,u)=>0≤u∧u<68719476736∧m++sev u.toNat=l++sev (n+1).toNat) (fun(g:Str × Int)=>match g with|(m,u)=>⟨[(0,.v (.one (.row 1))),(5,.v (.one (.p (.int .u64 u))))],[.gone,.row .byte 5 m],24,none⟩) (fun(g:Str × Int)=>match g with|(m,u)=>u.toNat) (l,I.wrap .u64 (I.add n 1)) (by kernel_rfl) (by kernel_rfl) ?_ ?_
  · subst hI
    simp only
    simp only [nrmA,nrmB]
    rw [wrap_u64 _ (by omega)]
    exact⟨by omega,by omega,rfl⟩
  rintro⟨m,u⟩ ⟨h0,h1,h2⟩ A hA
  obtain⟨u,rfl⟩:=Int.eq_ofNat_of_zero_le h0
  simp only [Int.toNat_natCast] at h2
  simp only at hA
  generalize hu':(u:Int)=u' at *
  refine zh (let y0:=I.bits Go.BinOp.or Go.IntKind.u8 (I.wrap Go.IntKind.u8 u') 128;.br (I.ile 128 u') (.need (I.inr Go.IntKind.u8 y0) (.need (I.few (I.add (I.len (α:=UInt8) m) (I.len (α:=UInt8) ([(I.i2b y0)]:List UInt8))) 140737488355328) (.need (I.nng 7) (.need (I.few 7 64) (.need (I.few 7 (Nat.cast (Go.IntKind.bits Go.IntKind.u64))) (.need (A ⟨[(0,(.v (.one (.row 1)))),(5,(.v (.one (.p (.int .u64 (I.shr u' 7))))))],[.gone,(.row .byte 5 (I.app (α:=UInt8) m ([(I.i2b y0)]:List UInt8)))],24,none⟩) .qed)))))) (.need (I.inr Go.IntKind.u8 (I.wrap Go.IntKind.u8 u')) (.need (I.few (I.add (I.len (α:=UInt8) m) (I.len (α:=UInt8) ([(I.i2b (I.wrap Go.IntKind.u8 u'))]:List UInt8))) 140737488355328) (.fin (.ret (.v (.one (.row 1)))) [.gone,(.row .byte 5 (I.app (α:=UInt8) m ([(I.i2b (I.wrap Go.IntKind.u8 u'))]:List UInt8)))])))) (by kernel_rfl) ?_
  simp only [zl]
  subst hI hu'
  simp only [nrmA,nrmB]
  have hml:=congrArg List.length h2
  have hs1:=yC u
  have hs2:=yC (n+1).toNat
  simp only [List.length_append] at hml
  have hu8:u % 256 % 128=u % 128:=by omega
  rw [wrap_u8 u,znQ _ (by omega),shr7,hu8,Int.toNat_natCast,Int.toNat_natCast]
  have h64:((IntKind.u64.bits:Nat):Int)=64:=by decide
  simp only [List.length_cons,List.length_nil,h64]
  (repeat' (first|refine And.intro ?_ ?_|intro _))<;>first|omega|exact True.intro|exact False.elim ‹False›|skip
  · have hb:=VE (u:=u) (by omega) (by omega)
    refine hA (m++[UInt8.ofNat (u % 128+128)],(u / 128:Nat)) ⟨by omega,by omega,?_⟩ (by simp only;omega)
    rw [Int.toNat_natCast,← h2,hb,List.append_assoc];rfl
  · rw [← h2,uM (by omega),show u % 256=u by omega]
def zdJ (I:Alg) (args:List D) (hp:List HO):Option CT:=match args,hp with
  |[.v (.one (.row 0)),.v (.one (.p (.int .i64 n)))],[.row .byte 5 l]=>(fun(l:Str) (n:Int)=>(some (.one ⟨I.hid (-1≤n∧n<34359738368∧l.length≤50000000),(.ret (.v (.one (.row 1)))),[.gone,.row .byte 5 (I.hid ((l++sev (n+1).toNat)))]⟩):Option CT)) l n
  |_,_=>none
theorem zkh:zo Tryz.prog 142 (zdJ alg):=by
  intro args hp r h
  unfold zdJ at h
  split at h
  · cases h;exact fun hn=>put_ _ _ hn
  · cases h
def zkg:Know Tryz.prog:=⟨142,zdJ,zkh⟩
def zkf:Know Tryz.prog:=⟨142,fun I=>zu I (zdJ I),zf zkh⟩
theorem zmk (n:Int) (hneed: -1≤n∧n<34359738368):Spc Tryz.prog 124 [.v (.one (.p (.int .i64 n)))] [] (.ret (.v (.one (.row 0)))) [.row .byte 5 ((sev (n+1).toNat))]:=by
  refine spcG zi mixed Tryz.func124 (by kernel_rfl) { nr:=[3],keep:=some [0,2,3]} [] (by kernel_rfl) ?_
  intro I X hI hX
  refine zh (.need (I.inr Go.IntKind.i64 (I.add n 1)) (.code 0 [1,1,1,0,0] ⟨[(0,(.v (.one (.p (.int .i64 (I.add n 1)))))),(3,(.v (.one (.row 0)))),(2,(.v (.one .nilS)))],[(.row .byte 5 ([]:List UInt8))],22,none⟩)) (by kernel_rfl) ?_
  simp only [zl]
  refine⟨(by rw [hI];simp only [nrmA,nrmB];omega),?_⟩
  refine zA hI zi mixed [] hX [0,3] (fun(g:Str × Int)=>match g with|(m,u)=>0≤u∧u<68719476736∧m++sev u.toNat=sev (n+1).toNat) (fun(g:Str × Int)=>match g with|(m,u)=>⟨[(0,.v (.one (.p (.int .i64 u)))),(3,.v (.one (.row 0)))],[.row .byte 5 m],22,none⟩) (fun(g:Str × Int)=>match g with|(m,u)=>u.toNat) ([],I.add n 1) (by kernel_rfl) (by kernel_rfl) ?_ ?_
  · subst hI
    simp only
    simp only [nrmA,nrmB]
    exact⟨by omega,by omega,rfl⟩
  rintro⟨m,u⟩ ⟨h0,h1,h2⟩ A hA
  obtain⟨u,rfl⟩:=Int.eq_ofNat_of_zero_le h0
  simp only [Int.toNat_natCast] at h2
  simp only at hA
  generalize hu':(u:Int)=u' at *
  refine zh (let y0:=I.wrap Go.IntKind.u8 (I.add (I.rem u' 128) 128);.br (I.ile 128 u') (.need (I.nne 128) (.need (I.inr Go.IntKind.i64 (I.add (I.rem u' 128) 128)) (.need (I.inr Go.IntKind.u8 y0) (.need (I.few (I.add (I.len (α:=UInt8) m) (I.len (α:=UInt8) ([(I.i2b y0)]:List UInt8))) 140737488355328) (.need (I.nne 128) (.need (I.inr Go.IntKind.i64 (I.quo u' 128)) (.need (A ⟨[(0,(.v (.one (.p (.int .i64 (I.quo u' 128)))))),(3,(.v (.one (.row 0))))],[(.row .byte 5 (I.app (α:=UInt8) m ([(I.i2b y0)]:List UInt8)))],22,none⟩) .qed))))))) (.need (I.inr Go.IntKind.u8 (I.wrap Go.IntKind.u8 u')) (.need (I.few (I.add (I.len (α:=UInt8) m) (I.len (α:=UInt8) ([(I.i2b (I.wrap Go.IntKind.u8 u'))]:List UInt8))) 140737488355328) (.fin (.ret (.v (.one (.row 0)))) [(.row .byte 5 (I.app (α:=UInt8) m ([(I.i2b (I.wrap Go.IntKind.u8 u'))]:List UInt8)))])))) (by kernel_rfl) ?_
  simp only [zl]
  subst hI hu'
  simp only [nrmA,nrmB]
  have hml:=congrArg List.length h2
  have hs1:=yC u
  have hs2:=yC (n+1).toNat
  simp only [List.length_append] at hml
  have e1:(u:Int).tmod 128+128=((u % 128+128:Nat):Int):=by rw [Int.tmod_eq_emod_of_nonneg (by omega)];omega
  have e2:(u:Int).tdiv 128=((u / 128:Nat):Int):=by rw [Int.tdiv_eq_ediv_of_nonneg (by omega)];omega
  rw [e1,e2,wrap_u8,wrap_u8,Int.toNat_natCast,Int.toNat_natCast,show(u % 128+128) % 256=u % 128+128 by omega]
  simp only [List.length_cons,List.length_nil]
  (repeat' (first|refine And.intro ?_ ?_|intro _))<;>first|omega|exact True.intro|exact False.elim ‹False›|skip
  · have hb:=VE (u:=u) (by omega) (by omega)
    refine hA (m++[UInt8.ofNat (u % 128+128)],(u / 128:Nat)) ⟨by omega,by omega,?_⟩ (by simp only;omega)
    rw [Int.toNat_natCast,← h2,hb,List.append_assoc];rfl
  · rw [← h2,uM (by omega),show u % 256=u by omega]
def Wp (I:Alg) (args:List D) (hp:List HO):Option CT:=match args,hp with
  |[.v (.one (.p (.int .i64 n)))],[]=>(fun(n:Int)=>(some (.one ⟨I.hid (-1≤n∧n<34359738368),(.ret (.v (.one (.row 0)))),[.row .byte 5 (I.hid ((sev (n+1).toNat)))]⟩):Option CT)) n
  |_,_=>none
theorem zdu:zo Tryz.prog 124 (Wp alg):=by
  intro args hp r h
  unfold Wp at h
  split at h
  · cases h;exact fun hn=>zmk _ hn
  · cases h
def zjh:Know Tryz.prog:=⟨124,Wp,zdu⟩
def zjg:Know Tryz.prog:=⟨124,fun I=>zu I (Wp I),zf zdu⟩
theorem few_ (n:Int):Spc Tryz.prog 128 [.v (.one (.p (.int .i64 n)))] [] (.ret (.v (.one (.p (.bool (few n)))))) []:=by
  refine spcG zi mixed Tryz.func128 (by kernel_rfl) { keep:=some [0,2]} [] (by kernel_rfl) ?_
  intro I X hI hX
  refine zh (.br (I.ile (Neg.neg (1:Int)) n) (.fin (.ret (.v (.one (.p (.bool (I.ilt n 1073741824)))))) []) (.fin (.ret (.v (.one (.p (.bool Bool.false))))) [])) (by kernel_rfl) ?_
  simp only [zl]
  subst hI
  simp only [nrmA,nrmB]
  unfold few
  (repeat' (first|refine And.intro ?_ ?_|intro _))<;>first|omega|exact True.intro|exact False.elim ‹False›|skip
  · simp [*]
  · simp [*]
def zez (I:Alg) (args:List D) (hp:List HO):Option CT:=match args,hp with
  |[.v (.one (.p (.int .i64 n)))],[]=>(fun(n:Int)=>(some (.one ⟨I.hid (True),(.ret (.v (.one (.p (.bool (I.hid (few n))))))),[]⟩):Option CT)) n
  |_,_=>none
theorem zkx:zo Tryz.prog 128 (zez alg):=by
  intro args hp r h
  unfold zez at h
  split at h
  · cases h;exact fun hn=>few_ _
  · cases h
def znb:Know Tryz.prog:=⟨128,zez,zkx⟩
def zna:Know Tryz.prog:=⟨128,fun I=>zu I (zez I),zf zkx⟩
theorem may_ (k i n:Int) (t:Str):Spc Tryz.prog 100 [.v (.agg [(.p (.int .i64 k)),(.p (.int .i64 i)),(.p (.int .i64 n)),(.p (.list .byte t))])] [] (.ret (.v (.one (.p (.bool (mayM ⟨k,i,n,t⟩)))))) []:=by
  refine spcG zi mixed Tryz.func100 (by kernel_rfl) { keep:=some [0,1,2,3]} [znb,zna] (by kernel_rfl) ?_
  intro I X hI hX
  refine zh (.br (I.ile 1 k) (.br (I.ile k 6) (.need (I.hid (α:=(Prop)) True) (.br (I.hid (α:=Bool) (Go.Jrn.few i)) (.need (I.hid (α:=(Prop)) True) (.br (I.hid (α:=Bool) (Go.Jrn.few n)) (.fin (.ret (.v (.one (.p (.bool (I.ilt (I.len (α:=UInt8) t) 1048576)))))) []) (.fin (.ret (.v (.one (.p (.bool Bool.false))))) []))) (.fin (.ret (.v (.one (.p (.bool Bool.false))))) []))) (.fin (.ret (.v (.one (.p (.bool Bool.false))))) [])) (.fin (.ret (.v (.one (.p (.bool Bool.false))))) [])) (by kernel_rfl) ?_
  simp only [zl]
  subst hI
  simp only [nrmA,nrmB]
  unfold mayM
  (repeat' (first|refine And.intro ?_ ?_|intro _))<;>first|omega|exact True.intro|exact False.elim ‹False›|skip
  all_goals simp [*]<;>omega
def zd2 (I:Alg) (args:List D) (hp:List HO):Option CT:=match args,hp with
  |[.v (.agg [(.p (.int .i64 k)),(.p (.int .i64 i)),(.p (.int .i64 n)),(.p (.list .byte t))])],[]=>(fun(k i n:Int) (t:Str)=>(some (.one ⟨I.hid (True),(.ret (.v (.one (.p (.bool (I.hid (mayM ⟨k,i,n,t⟩))))))),[]⟩):Option CT)) k i n t
  |_,_=>none
theorem zkm:zo Tryz.prog 100 (zd2 alg):=by
  intro args hp r h
  unfold zd2 at h
  split at h
  · cases h;exact fun hn=>may_ _ _ _ _
  · cases h
def zd1:Know Tryz.prog:=⟨100,zd2,zkm⟩
def zd0:Know Tryz.prog:=⟨100,fun I=>zu I (zd2 I),zf zkm⟩
def numAt (b:Str):Int × Int:=if(num b).2.2 then((num b).1,(numK 0 b:Nat)) else(0,0)
theorem get_ (b:Str):Spc Tryz.prog 99 [.v (.one (.p (.list .byte b)))] [] (.ret (.tup [(.one (.p (.int .i64 ((num b).1)))),(.one (.p (.list .byte ((num b).2.1)))),(.one (.p (.bool ((num b).2.2))))])) []:=by
  refine spcG zi mixed Tryz.func99 (by kernel_rfl) { rl:=[1],keep:=some [0,2,3,4,5,6,9,10]} [] (by kernel_rfl) ?_
  intro I X hI hX
  refine zh (.code 0 [1,1,0,1,0] ⟨[(10,(.v (.one (.p (.int .i64 0))))),(9,(.v (.one (.p (.int .i64 (I.imin (I.len (α:=UInt8) b) 5)))))),(5,(.v (.one (.p (.int .i64 0))))),(4,(.v (.one (.p (.val (.bool .false)))))),(3,(.v (.one .nilS))),(2,(.v (.one (.p (.int .i64 0))))),(0,(.v (.one (.p (.list .byte b)))))],[],45,none⟩) (by kernel_rfl) ?_
  simp only [zl]
  generalize hr:num b=r
  obtain⟨r1,r2,r3⟩:=r
  refine zA hI zi mixed [] hX [0,5,9,10] (fun(g:Nat × Int)=>match g with|(i,u)=>i≤b.length∧i≤5∧0≤u∧u<(128 ^ i:Nat)∧numF i u.toNat (b.drop i)=num b) (fun(g:Nat × Int)=>match g with|(i,u)=>⟨[(0,.v (.one (.p (.list .byte b)))),(5,.v (.one (.p (.int .i64 u)))),(9,.v (.one (.p (.int .i64 ((I.imin (I.len (α:=UInt8) b) 5)))))),(10,.v (.one (.p (.int .i64 i))))],[],45,none⟩) (fun(g:Nat × Int)=>match g with|(i,u)=>b.length - i) (0,0) (by kernel_rfl) (by kernel_rfl) ?_ ?_
  · exact⟨Nat.zero_le _,by omega,Int.le_refl _,by simp,rfl⟩
  rintro⟨i,u⟩ ⟨h1,h2,h3,h4,h6⟩ A hA
  simp only at hA
  refine zh (let y3:=I.b2i (I.get (α:=UInt8) b 0 (Nat.cast i));let y0:=I.bits Go.BinOp.or Go.IntKind.i64 u (I.shl Go.IntKind.i64 (I.wrap Go.IntKind.i64 (I.bits Go.BinOp.and Go.IntKind.u8 y3 127)) (I.mul 7 (Nat.cast i)));let y1:=I.inb (Nat.cast i) (I.len (α:=UInt8) b);let y2:=I.cut (α:=UInt8) b (I.add (Nat.cast i) 1) (I.len (α:=UInt8) b);let y4:=I.inr Go.IntKind.i64 (I.add (Nat.cast i) 1);.br (I.ilt (Nat.cast i) (I.imin (I.len (α:=UInt8) b) 5)) (.need y1 (.need y1 (.need (I.inr Go.IntKind.i64 (I.mul 7 (Nat.cast i))) (.need (I.nng (I.mul 7 (Nat.cast i))) (.need y1 (.need y1 (.br (I.ilt y3 128) (.need (I.inr Go.IntKind.i64 (I.sub y0 1)) (.need y4 (.need (I.cutb (I.add (Nat.cast i) 1) (I.len (α:=UInt8) b) (I.len (α:=UInt8) b)) (.br (I.ieq (Nat.cast i) 0) (.fin (.ret (.tup [(.one (.p (.int .i64 (I.sub y0 1)))),(.one (.p (.list .byte y2))),(.one (.p (.bool Bool.true)))])) []) (.need y1 (.need y1 (.fin (.ret (.tup [(.one (.p (.int .i64 (I.sub y0 1)))),(.one (.p (.list .byte y2))),(.one (.p (.bool (I.ilt 0 y3))))])) []))))))) (.need y4 (.need (A ⟨[(0,(.v (.one (.p (.list .byte b))))),(5,(.v (.one (.p (.int .i64 y0))))),(9,(.v (.one (.p (.int .i64 (I.imin (I.len (α:=UInt8) b) 5)))))),(10,(.v (.one (.p (.int .i64 (I.add (Nat.cast i) 1))))))],[],45,none⟩) .qed))))))))) (.fin (.ret (.tup [(.one (.p (.int .i64 0))),(.one (.p (.list .byte ([]:List UInt8)))),(.one (.p (.bool Bool.false)))])) [])) (by kernel_rfl) ?_
  simp only [zl]
  subst hI
  simp only [nrmA,nrmB,nrlB,reduceCtorEq]
  obtain⟨u,rfl⟩:=Int.eq_ofNat_of_zero_le h3
  rw [Int.toNat_natCast] at h6
  have hs1:=fun(h:i<b.length) (h':i<5)=>zhi u h h'
  generalize hc:(b.getD i 0).toNat=c at hs1 ⊢
  have hc256:c<256:=by rw [← hc];exact UInt8.toNat_lt _
  have hlim:((i:Int)<if((b.length:Nat):Int)≤5 then((b.length:Nat):Int) else 5)↔(i<b.length∧i<5):=by split<;>omega
  have hbits:IntKind.i64.bits=64:=by decide
  have hpw:2 ^ (7 * i)=128 ^ i:=by rw [Nat.pow_mul]
  have hq:i<5→128 ^ i≤128 ^ 4:=fun h=>Nat.pow_le_pow_right (by omega) (by omega)
  have e1:i<5→IntKind.i64.wrap (IntKind.u8.wrap ((BitVec.ofInt IntKind.u8.bits (c:Int)&&& BitVec.ofInt IntKind.u8.bits 127).toNat:Int)) * 2 ^ min (7 * (i:Int)).toNat IntKind.i64.bits=((c % 128 * 2 ^ (7 * i):Nat):Int):=by
    intro h5
    rw [znv c hc256,wrap_i64 _ (by omega),hbits,show min (7 * (i:Int)).toNat 64=7 * i by omega]
    exact(Int.natCast_mul _ _).symm
  rw [hlim]
  have hW:i<5→∀ W,IntKind.i64.wrap ((BitVec.ofInt IntKind.i64.bits (u:Int)|||BitVec.ofInt IntKind.i64.bits (IntKind.i64.wrap (IntKind.i64.wrap (IntKind.u8.wrap ((BitVec.ofInt IntKind.u8.bits (c:Int)&&& BitVec.ofInt IntKind.u8.bits 127).toNat:Int)) * 2 ^ min (7 * (i:Int)).toNat IntKind.i64.bits))).toNat:Int)=W→W=((u+c % 128 * 128 ^ i:Nat):Int):=by
    intro h5 W h
    have hm:c % 128 * 2 ^ (7 * i)≤127 * 2 ^ (7 * i):=Nat.mul_le_mul_right _ (by omega)
    have h2:2 ^ (7 * i)≤2 ^ 28:=Nat.pow_le_pow_right (by omega) (by omega)
    rw [e1 h5,wrap_i64 ((c % 128 * 2 ^ (7 * i):Nat):Int) (by omega),zmI u (c % 128) i (by rw [hpw];omega) (by omega) (by omega),hpw] at h
    exact h.symm
  generalize hWd:IntKind.i64.wrap ((BitVec.ofInt IntKind.i64.bits (u:Int)|||BitVec.ofInt IntKind.i64.bits (IntKind.i64.wrap (IntKind.i64.wrap (IntKind.u8.wrap ((BitVec.ofInt IntKind.u8.bits (c:Int)&&& BitVec.ofInt IntKind.u8.bits 127).toNat:Int)) * 2 ^ min (7 * (i:Int)).toNat IntKind.i64.bits))).toNat:Int)=W at hW ⊢
  have hW:=fun h=>hW h W rfl
  have hp:128 ^ (i+1)=128 ^ i * 128:=Nat.pow_succ ..
  have hend:=zjB (b:=b) (i:=i) u
  have hr':=hr
  rw [← h6] at hr'
  generalize hQ:128 ^ i=Q at *
  have hm:c % 128 * Q≤127 * Q:=Nat.mul_le_mul_right _ (by omega)
  have hcm:c<128→c * Q=c % 128 * Q:=fun h=>by rw [Nat.mod_eq_of_lt h]
  generalize hX:c % 128 * Q=X at *
  have hcut:List.take (List.length b - ((i:Int)+1).toNat) (List.drop ((i:Int)+1).toNat b)=b.drop (i+1):=by
    rw [show((i:Int)+1).toNat=i+1 by omega,List.take_of_length_le (by simp)]
  rw [hcut]
  have hfin: ¬ (i<b.length∧i<5)→0=r1∧([]:Str)=r2∧false=r3:=by
    intro h
    rw [hend (by omega)] at hr'
    simpa using hr'
  have hret:i<b.length∧i<5→c<128→W - 1=r1∧b.drop (i+1)=r2∧decide (i=0∨0<c)=r3:=by
    intro h1 h3
    rw [hs1 h1.1 h1.2] at hr'
    simp only [if_pos h3,hcm h3,Prod.mk.injEq] at hr'
    rw [hW h1.2]
    exact hr'
  have hback:i<b.length∧i<5→¬ c<128→A ⟨[(0,.v (.one (.p (.list .byte b)))),(5,.v (.one (.p (.int .i64 W)))),(9,.v (.one (.p (.int .i64 ((if((b.length:Nat):Int)≤5 then((b.length:Nat):Int) else 5)))))),(10,.v (.one (.p (.int .i64 (((i:Int)+1))))))],[],45,none⟩:=by
    intro h1 h3
    have g0:=hW h1.2
    have g1:0≤W:=by omega
    have g2:W<((128 ^ (i+1):Nat):Int):=by rw [hp];omega
    refine hA (i+1,W) ⟨h1.1,h1.2,g1,g2,?_⟩ (by simp only;omega)
    rw [← h6,hs1 h1.1 h1.2,if_neg h3,g0,Int.toNat_natCast]
  (repeat' (first|refine And.intro ?_ ?_|intro _))<;>first|omega|exact True.intro|exact False.elim ‹False›|skip
  all_goals first
    |exact(hfin (by omega)).1
    |exact(hfin (by omega)).2.1
    |exact(hfin (by omega)).2.2
    |exact(hret (by omega) (by omega)).1
    |exact(hret (by omega) (by omega)).2.1
    |exact hback (by omega) (by omega)
    |(rw [← (hret (by omega) (by omega)).2.2];simp;omega)
    |skip
  all_goals trace_state
def zeq (I:Alg) (args:List D) (hp:List HO):Option CT:=match args,hp with
  |[.v (.one (.p (.list .byte b)))],[]=>(fun(b:Str)=>(some (.one ⟨I.hid (True),(.ret (.tup [(.one (.p (.int .i64 (I.hid ((num b).1))))),(.one (.p (.list .byte (I.hid ((num b).2.1))))),(.one (.p (.bool (I.hid ((num b).2.2)))))])),[]⟩):Option CT)) b
  |_,_=>none
theorem zku:zo Tryz.prog 99 (zeq alg):=by
  intro args hp r h
  unfold zeq at h
  split at h
  · cases h;exact fun hn=>get_ _
  · cases h
def zkt:Know Tryz.prog:=⟨99,zeq,zku⟩
def zks:Know Tryz.prog:=⟨99,fun I=>zu I (zeq I),zf zku⟩
end Go.Proofs.YtcclfkakcgnacaaGreatDoor
namespace Go.Proofs.YtcclfkakcgnacaaGreatDoor
open Go Go.Sep Go.Ab Go.Jrn
set_option maxRecDepth 100000
def pre3 (k i n:Int):Nat→Str
  |0=>[]
  |1=>sev (k+1).toNat
  |2=>sev (k+1).toNat++sev (i+1).toNat
  |_=>sev (k+1).toNat++sev (i+1).toNat++sev (n+1).toNat
theorem zlC (k i n:Int) (t:Str):Spc Tryz.prog 116 [.v (.agg [(.p (.int .i64 k)),(.p (.int .i64 i)),(.p (.int .i64 n)),(.p (.list .byte t))])] [] (.ret (.tup [(.one (.row 0)),(.one (.p (.int .i64 (encC ⟨k,i,n,t⟩))))])) [.row .byte 5 ((encM ⟨k,i,n,t⟩))]:=by
  refine spcG zi mixed Tryz.func116 (by kernel_rfl) { nr:=[4],own:=[142],keep:=some [0,1,2,3,4,6,16,17,18]} [zkg,zkf,zd1,zd0] (by kernel_rfl) ?_
  intro I X hI hX
  refine zh (.need (I.hid (α:=(Prop)) True) (.br (I.bnot (I.hid (α:=Bool) (Go.Jrn.mayM (Go.Ab.Ent.mk k i n t)))) (.fin (.ret (.tup [(.one (.row 0)),(.one (.p (.int .i64 1)))])) [(.row .byte 5 ([]:List UInt8))]) (.code 0 [1,1,1,0,1,0] ⟨[(18,(.v (.one (.p (.int .i64 0))))),(17,(.v (.one (.p (.int .i64 (I.len (α:=Int) ([k,i,n]:List Int))))))),(16,(.v (.one (.row 2)))),(4,(.v (.one (.row 1)))),(3,(.v (.one (.p (.int .i64 0))))),(2,(.v (.one .nilS))),(1,(.v (.one (.ptr 0 0)))),(0,(.v (.agg [(.p (.int .i64 k)),(.p (.int .i64 i)),(.p (.int .i64 n)),(.p (.list .byte t))])))],[(.obj 101 [(.p (.int .i64 k)),(.p (.int .i64 i)),(.p (.int .i64 n)),(.p (.list .byte t))]),(.row .byte 5 ([]:List UInt8)),(.row .int 3 ([k,i,n]:List Int))],35,none⟩))) (by kernel_rfl) ?_
  simp only [zl]
  refine⟨(by rw [hI];trivial),fun hm=> ?_,fun hm=> ?_⟩
  · subst hI
    simp only [nrmA,nrmB,nrlB,reduceCtorEq] at hm
    simp only [nrmA,nrmB,nrlB,reduceCtorEq]
    simp only [encC,encM,hm,Bool.false_eq_true,if_false]
    exact⟨trivial,trivial⟩
  rw [hI] at hm;simp only [nrmA,nrmB] at hm
  have hmay:=hm
  simp only [mayM,few,Bool.and_eq_true,decide_eq_true_eq] at hmay
  obtain⟨⟨⟨⟨m1,m2⟩,m3,m4⟩,m5,m6⟩,m7⟩:=hmay
  simp only [encC,encM,hm,if_true]
  generalize hr:encB ⟨k,i,n,t⟩=r
  refine zA hI zi mixed [zkg,zkf,zd1,zd0] hX [1,4,16,17,18] (fun(g:Nat × Str)=>match g with|(j,m)=>j≤3∧m=pre3 k i n j) (fun(g:Nat × Str)=>match g with|(j,m)=>⟨[(1,.v (.one (.ptr 0 0))),(4,.v (.one (.row 1))),(16,.v (.one (.row 2))),(17,.v (.one (.p (.int .i64 ((I.len (α:=Int) [k,i,n])))))),(18,.v (.one (.p (.int .i64 j))))],[.pack [.obj 101 [(.p (.int .i64 k)),(.p (.int .i64 i)),(.p (.int .i64 n)),(.p (.list .byte t))]],.row .byte 5 m,.row .int 3 ([k,i,n])],35,none⟩) (fun(g:Nat × Str)=>match g with|(j,m)=>3 - j) (0,[]) (by kernel_rfl) (by kernel_rfl) ?_ ?_
  · exact⟨Nat.zero_le _,rfl⟩
  rintro⟨j,m⟩ ⟨hj,hjm⟩ A hA
  simp only at hA
  refine zh (let y0:=I.len (α:=UInt8) (I.app (α:=UInt8) m t);let y1:=I.len (α:=Int) ([k,i,n]:List Int);let y2:=I.hid (α:=(List UInt8)) (HAppend.hAppend ([]:List UInt8) (Go.Jrn.sev (Int.toNat (HAdd.hAdd y0 (1:Int)))));let y3:=I.get (α:=Int) ([k,i,n]:List Int) 0 (Nat.cast j);.br (I.ilt (Nat.cast j) y1) (.need (I.inb (Nat.cast j) y1) (.need (I.inb (Nat.cast j) y1) (.need (I.hid (α:=(Prop)) (And (LE.le (Neg.neg (1:Int)) y3) (And (LT.lt y3 (34359738368:Int)) (LE.le (List.length m) 50000000)))) (.need (I.inr Go.IntKind.i64 (I.add (Nat.cast j) 1)) (.need (A ⟨[(1,(.v (.one (.ptr 0 0)))),(4,(.v (.one (.row 1)))),(16,(.v (.one (.row 2)))),(17,(.v (.one (.p (.int .i64 y1))))),(18,(.v (.one (.p (.int .i64 (I.add (Nat.cast j) 1))))))],[(.pack [(.obj 101 [(.p (.int .i64 k)),(.p (.int .i64 i)),(.p (.int .i64 n)),(.p (.list .byte t))])]),(.row .byte 5 (I.hid (α:=(List UInt8)) (HAppend.hAppend m (Go.Jrn.sev (Int.toNat (HAdd.hAdd y3 (1:Int))))))),(.row .int 3 ([k,i,n]:List Int))],35,none⟩) .qed))))) (.need (I.few (I.add (I.len (α:=UInt8) m) (I.len (α:=UInt8) t)) 140737488355328) (.need (I.hid (α:=(Prop)) (And (LE.le (Neg.neg (1:Int)) y0) (And (LT.lt y0 (34359738368:Int)) (LE.le (List.length ([]:List UInt8)) 50000000)))) (.need (I.few (I.add (I.len (α:=UInt8) y2) y0) 140737488355328) (.fin (.ret (.tup [(.one (.row 0)),(.one (.p (.int .i64 0)))])) [(.row .byte 5 (I.app (α:=UInt8) y2 (I.app (α:=UInt8) m t)))]))))) (by kernel_rfl) ?_
  simp only [zl]
  subst hI
  simp only [nrmA,nrmB,nrlB,reduceCtorEq]
  have l1:=yC (k+1).toNat
  have l2:=yC (i+1).toNat
  have l3:=yC (n+1).toNat
  simp only [List.length_cons,List.length_nil]
  rcases(show j=0∨j=1∨j=2∨j=3 by omega) with rfl|rfl|rfl|rfl
  · have hb:=hA (1,sev (k+1).toNat) ⟨by omega,rfl⟩ (by simp only;omega)
    subst hjm
    (repeat' (first|refine And.intro ?_ ?_|intro _))<;>first|omega|exact True.intro|exact False.elim ‹False›|skip
    · simp only [List.getD_cons_zero];omega
    · simp only [List.getD_cons_zero];omega
    · simp only [pre3,List.length_nil];omega
    · exact hb
  · have hb:=hA (2,sev (k+1).toNat++sev (i+1).toNat) ⟨by omega,rfl⟩ (by simp only;omega)
    subst hjm
    (repeat' (first|refine And.intro ?_ ?_|intro _))<;>first|omega|exact True.intro|exact False.elim ‹False›|skip
    · simp only [List.getD_cons_zero,List.getD_cons_succ];omega
    · simp only [List.getD_cons_zero,List.getD_cons_succ];omega
    · simp only [pre3];omega
    · exact hb
  · have hb:=hA (3,sev (k+1).toNat++sev (i+1).toNat++sev (n+1).toNat) ⟨by omega,rfl⟩ (by simp only;omega)
    subst hjm
    (repeat' (first|refine And.intro ?_ ?_|intro _))<;>first|omega|exact True.intro|exact False.elim ‹False›|skip
    · simp only [List.getD_cons_zero,List.getD_cons_succ];omega
    · simp only [List.getD_cons_zero,List.getD_cons_succ];omega
    · simp only [pre3,List.length_append];omega
    · exact hb
  · have hm3:(m++t).length≤1048606:=by rw [hjm];simp only [pre3,List.length_append];omega
    have hml:m.length≤30:=by rw [hjm];simp only [pre3,List.length_append];omega
    have l4:=yC (((m++t).length:Nat)+1:Int).toNat
    (repeat' (first|refine And.intro ?_ ?_|intro _))<;>first|omega|exact True.intro|exact False.elim ‹False›|skip
    · simp only [List.nil_append];omega
    · rw [← hr,hjm]
      simp only [encB,enc3,pre3,List.nil_append]
      rfl
def YE (I:Alg) (args:List D) (hp:List HO):Option CT:=match args,hp with
  |[.v (.agg [(.p (.int .i64 k)),(.p (.int .i64 i)),(.p (.int .i64 n)),(.p (.list .byte t))])],[]=>(fun(k i n:Int) (t:Str)=>(some (.one ⟨I.hid (True),(.ret (.tup [(.one (.row 0)),(.one (.p (.int .i64 (I.hid (encC ⟨k,i,n,t⟩)))))])),[.row .byte 5 (I.hid ((encM ⟨k,i,n,t⟩)))]⟩):Option CT)) k i n t
  |_,_=>none
theorem zbx:zo Tryz.prog 116 (YE alg):=by
  intro args hp r h
  unfold YE at h
  split at h
  · cases h;exact fun hn=>zlC _ _ _ _
  · cases h
def zic:Know Tryz.prog:=⟨116,YE,zbx⟩
def zib:Know Tryz.prog:=⟨116,fun I=>zu I (YE I),zf zbx⟩
theorem zlD {e:Ent} (h: ¬ mayM e=true):encM e=[]∧encC e=1:=by simp [encM,encC,h]
theorem zd3 (k i n:Int) (t:Str):mayM ⟨k,i,n,t⟩=true↔(1≤k∧k≤6∧ -1≤i∧i<1073741824∧ -1≤n∧n<1073741824∧t.length<1048576):=by
  simp only [mayM,few,Bool.and_eq_true,decide_eq_true_eq,and_assoc]
theorem zcI (k i n:Int) (t:Str):Spc Tryz.prog 92 [.v (.agg [(.p (.int .i64 k)),(.p (.int .i64 i)),(.p (.int .i64 n)),(.p (.list .byte t))])] [] (.ret (.tup [(.one (.row 0)),(.one (.p (.int .i64 (encC ⟨k,i,n,t⟩))))])) [.row .byte 5 ((encM ⟨k,i,n,t⟩))]:=by
  refine spcG zi mixed Tryz.func92 (by kernel_rfl) { nr:=[4],keep:=some [0,1,2,3,4]} [zjh,zjg] (by kernel_rfl) ?_
  intro I X hI hX
  refine zh (let y1:=I.hid (α:=(List UInt8)) (Go.Jrn.sev (Int.toNat (HAdd.hAdd k (1:Int))));let y2:=I.hid (α:=(List UInt8)) (Go.Jrn.sev (Int.toNat (HAdd.hAdd i (1:Int))));let y3:=I.hid (α:=(List UInt8)) (Go.Jrn.sev (Int.toNat (HAdd.hAdd n (1:Int))));let y0:=I.len (α:=UInt8) (I.app (α:=UInt8) (I.app (α:=UInt8) (I.app (α:=UInt8) y1 y2) y3) t);let y4:=I.hid (α:=(List UInt8)) (Go.Jrn.sev (Int.toNat (HAdd.hAdd y0 (1:Int))));.br (I.ilt k 1) (.fin (.ret (.tup [(.one (.row 0)),(.one (.p (.int .i64 1)))])) [(.row .byte 5 ([]:List UInt8))]) (.br (I.ilt 6 k) (.fin (.ret (.tup [(.one (.row 0)),(.one (.p (.int .i64 1)))])) [(.row .byte 5 ([]:List UInt8))]) (.br (I.ilt i (Neg.neg (1:Int))) (.fin (.ret (.tup [(.one (.row 0)),(.one (.p (.int .i64 1)))])) [(.row .byte 5 ([]:List UInt8))]) (.br (I.ile 1073741824 i) (.fin (.ret (.tup [(.one (.row 0)),(.one (.p (.int .i64 1)))])) [(.row .byte 5 ([]:List UInt8))]) (.br (I.ilt n (Neg.neg (1:Int))) (.fin (.ret (.tup [(.one (.row 0)),(.one (.p (.int .i64 1)))])) [(.row .byte 5 ([]:List UInt8))]) (.br (I.ile 1073741824 n) (.fin (.ret (.tup [(.one (.row 0)),(.one (.p (.int .i64 1)))])) [(.row .byte 5 ([]:List UInt8))]) (.br (I.ile 1048576 (I.len (α:=UInt8) t)) (.fin (.ret (.tup [(.one (.row 0)),(.one (.p (.int .i64 1)))])) [(.row .byte 5 ([]:List UInt8))]) (.need (I.hid (α:=(Prop)) (And (LE.le (Neg.neg (1:Int)) k) (LT.lt k (34359738368:Int)))) (.need (I.hid (α:=(Prop)) (And (LE.le (Neg.neg (1:Int)) i) (LT.lt i (34359738368:Int)))) (.need (I.few (I.add (I.len (α:=UInt8) y1) (I.len (α:=UInt8) y2)) 140737488355328) (.need (I.hid (α:=(Prop)) (And (LE.le (Neg.neg (1:Int)) n) (LT.lt n (34359738368:Int)))) (.need (I.few (I.add (I.len (α:=UInt8) (I.app (α:=UInt8) y1 y2)) (I.len (α:=UInt8) y3)) 140737488355328) (.need (I.few (I.add (I.len (α:=UInt8) (I.app (α:=UInt8) (I.app (α:=UInt8) y1 y2) y3)) (I.len (α:=UInt8) t)) 140737488355328) (.need (I.hid (α:=(Prop)) (And (LE.le (Neg.neg (1:Int)) y0) (LT.lt y0 (34359738368:Int)))) (.need (I.few (I.add (I.len (α:=UInt8) y4) y0) 140737488355328) (.fin (.ret (.tup [(.one (.row 0)),(.one (.p (.int .i64 0)))])) [(.row .byte 5 (I.app (α:=UInt8) y4 (I.app (α:=UInt8) (I.app (α:=UInt8) (I.app (α:=UInt8) y1 y2) y3) t)))])))))))))))))))) (by kernel_rfl) ?_
  simp only [zl]
  have hno: ¬ (1≤k∧k≤6∧ -1≤i∧i<1073741824∧ -1≤n∧n<1073741824∧t.length<1048576)→encM ⟨k,i,n,t⟩=[]∧encC ⟨k,i,n,t⟩=1:=fun h=>zlD (fun h'=>h ((zd3 k i n t).1 h'))
  have hyes:(1≤k∧k≤6∧ -1≤i∧i<1073741824∧ -1≤n∧n<1073741824∧t.length<1048576)→encM ⟨k,i,n,t⟩=encB ⟨k,i,n,t⟩∧encC ⟨k,i,n,t⟩=0:=fun h=>by
    have:=(zd3 k i n t).2 h
    simp [encM,encC,this]
  generalize encM ⟨k,i,n,t⟩=r1 at *
  generalize encC ⟨k,i,n,t⟩=r2 at *
  have l1:=yC (k+1).toNat
  have l2:=yC (i+1).toNat
  have l3:=yC (n+1).toNat
  subst hI
  simp only [nrmA,nrmB,nrlB,reduceCtorEq]
  have l4:t.length<1048576→1≤k∧k≤6→(enc3 ⟨k,i,n,t⟩).length≤1048606:=fun h _=>by simp only [enc3,List.length_append];omega
  have l5:=yC (((sev (k+1).toNat++sev (i+1).toNat++sev (n+1).toNat++t).length:Nat)+1:Int).toNat
  simp only [List.length_append] at l5 ⊢
  (repeat' (first|refine And.intro ?_ ?_|intro _))<;>first|omega|exact True.intro|exact False.elim ‹False›|skip
  all_goals first
    |exact(hno (by omega)).2.symm
    |exact(hno (by omega)).1.symm
    |exact(hyes (by omega)).2.symm
    |skip
  rw [(hyes (by omega)).1]
  simp only [encB,enc3,List.length_append]
  rfl
def wX (I:Alg) (args:List D) (hp:List HO):Option CT:=match args,hp with
  |[.v (.agg [(.p (.int .i64 k)),(.p (.int .i64 i)),(.p (.int .i64 n)),(.p (.list .byte t))])],[]=>(fun(k i n:Int) (t:Str)=>(some (.one ⟨I.hid (True),(.ret (.tup [(.one (.row 0)),(.one (.p (.int .i64 (I.hid (encC ⟨k,i,n,t⟩)))))])),[.row .byte 5 (I.hid ((encM ⟨k,i,n,t⟩)))]⟩):Option CT)) k i n t
  |_,_=>none
theorem YD:zo Tryz.prog 92 (wX alg):=by
  intro args hp r h
  unfold wX at h
  split at h
  · cases h;exact fun hn=>zcI _ _ _ _
  · cases h
def entryBytes__k:Know Tryz.prog:=⟨92,wX,YD⟩
def entryBytes__l:Know Tryz.prog:=⟨92,fun I=>zu I (wX I),zf YD⟩
theorem zn1 (b:Str) (hneed:b.length≤100000000):Spc Tryz.prog 70 [.v (.one (.p (.list .byte b)))] [] (.ret (.tup [(.agg [(.p (.int .i64 ((oneX b).1.kind))),(.p (.int .i64 ((oneX b).1.id))),(.p (.int .i64 ((oneX b).1.n))),(.p (.list .byte ((oneX b).1.text)))]),(.one (.p (.list .byte ((oneX b).2.1)))),(.one (.p (.bool ((oneX b).2.2))))])) []:=by
  refine spcG zi mixed Tryz.func70 (by kernel_rfl) { rl:=[1],keep:=some [0,2,3,4,5,6,7,8,9,10,11,12,38]} [Va,W9,zd1,zd0,zkt,zks] (by kernel_rfl) ?_
  intro I X hI hX
  refine zh (let y0:=I.hid (α:=(List UInt8)) (Prod.fst (Prod.snd (Go.Jrn.num b)));let y1:=I.hid (α:=Int) (Prod.fst (Go.Jrn.num b));let y2:=I.hid (α:=Bool) (Prod.snd (Prod.snd (Go.Jrn.num b)));.need (I.hid (α:=(Prop)) True) (.br (I.bnot y2) (.fin (.ret (.tup [(.agg [(.p (.int .i64 0)),(.p (.int .i64 0)),(.p (.int .i64 0)),(.p (.list .byte ([]:List UInt8)))]),(.one (.p (.list .byte ([]:List UInt8)))),(.one (.p (.bool Bool.false)))])) []) (.br (I.ilt y1 0) (.fin (.ret (.tup [(.agg [(.p (.int .i64 0)),(.p (.int .i64 0)),(.p (.int .i64 0)),(.p (.list .byte ([]:List UInt8)))]),(.one (.p (.list .byte ([]:List UInt8)))),(.one (.p (.bool Bool.false)))])) []) (.br (I.ilt (I.len (α:=UInt8) y0) y1) (.fin (.ret (.tup [(.agg [(.p (.int .i64 0)),(.p (.int .i64 0)),(.p (.int .i64 0)),(.p (.list .byte ([]:List UInt8)))]),(.one (.p (.list .byte ([]:List UInt8)))),(.one (.p (.bool Bool.false)))])) []) (.need (I.cutb 0 y1 (I.len (α:=UInt8) y0)) (.need (I.cutb y1 (I.len (α:=UInt8) y0) (I.len (α:=UInt8) y0)) (.code 0 [1,1,1,1,1,0,1,0] ⟨[(38,(.v (.one (.p (.int .i64 0))))),(10,(.v (.one (.ptr 1 0)))),(9,(.v (.one (.p (.list .byte (I.cut (α:=UInt8) y0 y1 (I.len (α:=UInt8) y0))))))),(8,(.v (.one (.p (.list .byte (I.cut (α:=UInt8) y0 0 y1)))))),(7,(.v (.one (.p (.bool y2))))),(6,(.v (.one (.p (.list .byte y0))))),(5,(.v (.one (.p (.int .i64 y1))))),(4,(.v (.one (.p (.val (.bool .false)))))),(3,(.v (.one .nilS))),(2,(.v (.one (.ptr 0 0)))),(0,(.v (.one (.p (.list .byte b)))))],[(.obj 101 [(.p (.int .i64 0)),(.p (.int .i64 0)),(.p (.int .i64 0)),.nilS]),(.obj 140 [(.p (.int .i64 0)),(.p (.int .i64 0)),(.p (.int .i64 0))])],66,none⟩))))))) (by kernel_rfl) ?_
  simp only [zl]
  generalize hv:(num b).1=v
  generalize hq:(num b).2.1=q
  generalize hok:(num b).2.2=ok
  have hnum:num b=(v,q,ok):=by rw [← hv,← hq,← hok]
  generalize hx:oneX b=x
  have hx':=hx
  rw [oneX,hnum] at hx'
  have hql:q.length≤b.length:=by
    rcases ok with _|_
    · have:=VT b;rw [hnum] at this;exact this
    · have:=VS (b:=b) (by rw [hnum]);rw [hnum] at this;exact Nat.le_of_lt this
  refine⟨(by rw [hI];trivial),fun h1=> ?_,fun h1=>⟨fun h2=> ?_,fun h2=>⟨fun h3=> ?_,fun h3=> ?_⟩⟩⟩
  · subst hI;simp only [nrmA,nrmB] at h1;subst h1;simp only at hx';subst hx';simp only [nrmA,nrmB,nrlB,reduceCtorEq]
  · subst hI;simp only [nrmA,nrmB] at h1;simp only [nrmA,nrmB] at h2;subst h1;simp only at hx';rw [if_pos (.inl h2)] at hx';subst hx';simp only [nrmA,nrmB,nrlB,reduceCtorEq]
  · subst hI;simp only [nrmA,nrmB] at h1;simp only [nrmA,nrmB] at h2;simp only [nrmA,nrmB] at h3;subst h1;simp only at hx';rw [if_pos (.inr h3)] at hx';subst hx';simp only [nrmA,nrmB,nrlB,reduceCtorEq]
  rw [hI] at h1;simp only [nrmA,nrmB] at h1
  rw [hI] at h2;simp only [nrmA,nrmB] at h2
  rw [hI] at h3;simp only [nrmA,nrmB] at h3
  subst h1
  simp only at hx'
  rw [if_neg (by omega)] at hx'
  refine⟨(by rw [hI];simp only [nrmA,nrmB];omega),(by rw [hI];simp only [nrmA,nrmB];omega),?_⟩
  have hin:I.cut (α:=UInt8) (I.hid (α:=List UInt8) q) 0 (I.hid (α:=Int) v)=q.take v.toNat:=by rw [hI];simp only [nrmA,nrmB]
  have hbh:I.cut (α:=UInt8) (I.hid (α:=List UInt8) q) (I.hid (α:=Int) v) (I.len (α:=UInt8) (I.hid (α:=List UInt8) q))=q.drop v.toNat:=by
    rw [hI];simp only [nrmA,nrmB];rw [List.take_of_length_le (by simp)]
  have hil:(q.take v.toNat).length≤b.length:=by simp;omega
  rw [hin,hbh]
  generalize q.take v.toNat=inn at *
  generalize q.drop v.toNat=bh at *
  refine zA hI zi mixed [Va,W9,zd1,zd0,zkt,zks] hX [2,8,9,10,38] (fun(g:Nat × Int × Int × Int × Str)=>match g with|(j,a,c,d,s)=>j≤3∧s.length≤b.length∧thr j a c d s=three inn) (fun(g:Nat × Int × Int × Int × Str)=>match g with|(j,a,c,d,s)=>⟨[(2,.v (.one (.ptr 0 0))),(8,.v (.one (.p (.list .byte s)))),(9,.v (.one (.p (.list .byte bh)))),(10,.v (.one (.ptr 1 0))),(38,.v (.one (.p (.int .i64 j))))],[.pack [.obj 101 [(.p (.int .i64 0)),(.p (.int .i64 0)),(.p (.int .i64 0)),.nilS]],.pack [.obj 140 [(.p (.int .i64 a)),(.p (.int .i64 c)),(.p (.int .i64 d))]]],66,none⟩) (fun(g:Nat × Int × Int × Int × Str)=>match g with|(j,a,c,d,s)=>3 - j) (0,0,0,0,inn) (by kernel_rfl) (by kernel_rfl) ?_ ?_
  · exact⟨Nat.zero_le _,hil,rfl⟩
  rintro⟨j,a,c,d,s⟩ ⟨hj,hsl,hthr⟩ A hA
  simp only at hA
  have hu:j<3→∀ e:(num s).2.2=false,thr j a c d s=none:=by
    intro h e
    have e2:num s=((num s).1,(num s).2.1,false):=by rw [← e]
    rcases(show j=0∨j=1∨j=2 by omega) with rfl|rfl|rfl
    · rw [thr,three,e2]
    · rw [thr,e2]
    · rw [thr,e2]
  have hfail:j<3→(num s).2.2=false→x=(⟨0,0,0,[]⟩,[],false):=by
    intro h e
    rw [← hthr,hu h e] at hx'
    exact hx'.symm
  have hnl:=VT s
  have hle:(num s).2.1.length≤b.length:=by omega
  rcases(show j=0∨j=1∨j=2∨j=3 by omega) with rfl|rfl|rfl|rfl
  · refine zh (let y0:=I.hid (α:=Bool) (Go.Jrn.mayM (Go.Ab.Ent.mk a c d s));let y1:=I.hid (α:=(Prop)) (LE.le (List.length s) 100000000);.br (I.ilt (Nat.cast 0) 3) (.need (I.hid (α:=(Prop)) True) (.br (I.bnot (I.hid (α:=Bool) (Prod.snd (Prod.snd (Go.Jrn.num s))))) (.fin (.ret (.tup [(.agg [(.p (.int .i64 0)),(.p (.int .i64 0)),(.p (.int .i64 0)),(.p (.list .byte ([]:List UInt8)))]),(.one (.p (.list .byte ([]:List UInt8)))),(.one (.p (.bool Bool.false)))])) []) (.need (I.inr Go.IntKind.i64 (I.add (Nat.cast 0) 1)) (.need (A ⟨[(2,(.v (.one (.ptr 0 0)))),(8,(.v (.one (.p (.list .byte (I.hid (α:=(List UInt8)) (Prod.fst (Prod.snd (Go.Jrn.num s))))))))),(9,(.v (.one (.p (.list .byte bh))))),(10,(.v (.one (.ptr 1 0)))),(38,(.v (.one (.p (.int .i64 (I.add (Nat.cast 0) 1))))))],[(.pack [(.obj 101 [(.p (.int .i64 0)),(.p (.int .i64 0)),(.p (.int .i64 0)),.nilS])]),(.pack [(.obj 140 [(.p (.int .i64 (I.hid (α:=Int) (Prod.fst (Go.Jrn.num s))))),(.p (.int .i64 c)),(.p (.int .i64 d))])])],66,none⟩) .qed)))) (.both (.need y1 (.need (I.hid (α:=(Prop)) True) (.fin (.ret (.tup [(.agg [(.p (.int .i64 a)),(.p (.int .i64 c)),(.p (.int .i64 d)),(.p (.list .byte s))]),(.one (.p (.list .byte bh))),(.one (.p (.bool y0)))])) []))) (.need y1 (.need (I.hid (α:=(Prop)) True) (.fin (.ret (.tup [(.agg [(.p (.int .i64 a)),(.p (.int .i64 c)),(.p (.int .i64 d)),(.p (.list .byte s))]),(.one (.p (.list .byte bh))),(.one (.p (.bool y0)))])) []))))) (by kernel_rfl) ?_
    simp only [zl]
    subst hI
    simp only [nrmA,nrmB,nrlB,reduceCtorEq]
    refine⟨fun _=>⟨fun e=> ?_,fun e=>⟨by omega,?_⟩⟩,fun h=>(by omega)⟩
    · rw [hfail (by omega) e];exact⟨rfl,rfl,rfl⟩
    · refine hA (1,(num s).1,c,d,(num s).2.1) ⟨by omega,hle,?_⟩ (by simp only;omega)
      rw [← hthr,thr,thr,three,show num s=((num s).1,(num s).2.1,true) by rw [← e]]
  · refine zh (let y0:=I.hid (α:=Bool) (Go.Jrn.mayM (Go.Ab.Ent.mk a c d s));let y1:=I.hid (α:=(Prop)) (LE.le (List.length s) 100000000);.br (I.ilt (Nat.cast 1) 3) (.need (I.hid (α:=(Prop)) True) (.br (I.bnot (I.hid (α:=Bool) (Prod.snd (Prod.snd (Go.Jrn.num s))))) (.fin (.ret (.tup [(.agg [(.p (.int .i64 0)),(.p (.int .i64 0)),(.p (.int .i64 0)),(.p (.list .byte ([]:List UInt8)))]),(.one (.p (.list .byte ([]:List UInt8)))),(.one (.p (.bool Bool.false)))])) []) (.need (I.inr Go.IntKind.i64 (I.add (Nat.cast 1) 1)) (.need (A ⟨[(2,(.v (.one (.ptr 0 0)))),(8,(.v (.one (.p (.list .byte (I.hid (α:=(List UInt8)) (Prod.fst (Prod.snd (Go.Jrn.num s))))))))),(9,(.v (.one (.p (.list .byte bh))))),(10,(.v (.one (.ptr 1 0)))),(38,(.v (.one (.p (.int .i64 (I.add (Nat.cast 1) 1))))))],[(.pack [(.obj 101 [(.p (.int .i64 0)),(.p (.int .i64 0)),(.p (.int .i64 0)),.nilS])]),(.pack [(.obj 140 [(.p (.int .i64 a)),(.p (.int .i64 (I.hid (α:=Int) (Prod.fst (Go.Jrn.num s))))),(.p (.int .i64 d))])])],66,none⟩) .qed)))) (.both (.need y1 (.need (I.hid (α:=(Prop)) True) (.fin (.ret (.tup [(.agg [(.p (.int .i64 a)),(.p (.int .i64 c)),(.p (.int .i64 d)),(.p (.list .byte s))]),(.one (.p (.list .byte bh))),(.one (.p (.bool y0)))])) []))) (.need y1 (.need (I.hid (α:=(Prop)) True) (.fin (.ret (.tup [(.agg [(.p (.int .i64 a)),(.p (.int .i64 c)),(.p (.int .i64 d)),(.p (.list .byte s))]),(.one (.p (.list .byte bh))),(.one (.p (.bool y0)))])) []))))) (by kernel_rfl) ?_
    simp only [zl]
    subst hI
    simp only [nrmA,nrmB,nrlB,reduceCtorEq]
    refine⟨fun _=>⟨fun e=> ?_,fun e=>⟨by omega,?_⟩⟩,fun h=>(by omega)⟩
    · rw [hfail (by omega) e];exact⟨rfl,rfl,rfl⟩
    · refine hA (2,a,(num s).1,d,(num s).2.1) ⟨by omega,hle,?_⟩ (by simp only;omega)
      rw [← hthr,thr,thr,show num s=((num s).1,(num s).2.1,true) by rw [← e]]
  · refine zh (let y0:=I.hid (α:=Bool) (Go.Jrn.mayM (Go.Ab.Ent.mk a c d s));let y1:=I.hid (α:=(Prop)) (LE.le (List.length s) 100000000);.br (I.ilt (Nat.cast 2) 3) (.need (I.hid (α:=(Prop)) True) (.br (I.bnot (I.hid (α:=Bool) (Prod.snd (Prod.snd (Go.Jrn.num s))))) (.fin (.ret (.tup [(.agg [(.p (.int .i64 0)),(.p (.int .i64 0)),(.p (.int .i64 0)),(.p (.list .byte ([]:List UInt8)))]),(.one (.p (.list .byte ([]:List UInt8)))),(.one (.p (.bool Bool.false)))])) []) (.need (I.inr Go.IntKind.i64 (I.add (Nat.cast 2) 1)) (.need (A ⟨[(2,(.v (.one (.ptr 0 0)))),(8,(.v (.one (.p (.list .byte (I.hid (α:=(List UInt8)) (Prod.fst (Prod.snd (Go.Jrn.num s))))))))),(9,(.v (.one (.p (.list .byte bh))))),(10,(.v (.one (.ptr 1 0)))),(38,(.v (.one (.p (.int .i64 (I.add (Nat.cast 2) 1))))))],[(.pack [(.obj 101 [(.p (.int .i64 0)),(.p (.int .i64 0)),(.p (.int .i64 0)),.nilS])]),(.pack [(.obj 140 [(.p (.int .i64 a)),(.p (.int .i64 c)),(.p (.int .i64 (I.hid (α:=Int) (Prod.fst (Go.Jrn.num s)))))])])],66,none⟩) .qed)))) (.both (.need y1 (.need (I.hid (α:=(Prop)) True) (.fin (.ret (.tup [(.agg [(.p (.int .i64 a)),(.p (.int .i64 c)),(.p (.int .i64 d)),(.p (.list .byte s))]),(.one (.p (.list .byte bh))),(.one (.p (.bool y0)))])) []))) (.need y1 (.need (I.hid (α:=(Prop)) True) (.fin (.ret (.tup [(.agg [(.p (.int .i64 a)),(.p (.int .i64 c)),(.p (.int .i64 d)),(.p (.list .byte s))]),(.one (.p (.list .byte bh))),(.one (.p (.bool y0)))])) []))))) (by kernel_rfl) ?_
    simp only [zl]
    subst hI
    simp only [nrmA,nrmB,nrlB,reduceCtorEq]
    refine⟨fun _=>⟨fun e=> ?_,fun e=>⟨by omega,?_⟩⟩,fun h=>(by omega)⟩
    · rw [hfail (by omega) e];exact⟨rfl,rfl,rfl⟩
    · refine hA (3,a,c,(num s).1,(num s).2.1) ⟨by omega,hle,?_⟩ (by simp only;omega)
      have e2:num s=((num s).1,(num s).2.1,true):=by rw [← e]
      rw [← hthr]
      simp only [thr]
      generalize num s=z at *
      obtain⟨z1,z2,z3⟩:=z
      simp only at e
      subst e;rfl
  · refine zh (let y0:=I.hid (α:=Bool) (Go.Jrn.mayM (Go.Ab.Ent.mk a c d s));let y1:=I.hid (α:=(Prop)) (LE.le (List.length s) 100000000);.br (I.ilt (Nat.cast 3) 3) (.need (I.hid (α:=(Prop)) True) (.stop 0)) (.both (.need y1 (.need (I.hid (α:=(Prop)) True) (.fin (.ret (.tup [(.agg [(.p (.int .i64 a)),(.p (.int .i64 c)),(.p (.int .i64 d)),(.p (.list .byte s))]),(.one (.p (.list .byte bh))),(.one (.p (.bool y0)))])) []))) (.need y1 (.need (I.hid (α:=(Prop)) True) (.fin (.ret (.tup [(.agg [(.p (.int .i64 a)),(.p (.int .i64 c)),(.p (.int .i64 d)),(.p (.list .byte s))]),(.one (.p (.list .byte bh))),(.one (.p (.bool y0)))])) []))))) (by kernel_rfl) ?_
    simp only [zl]
    subst hI
    simp only [nrmA,nrmB,nrlB,reduceCtorEq]
    rw [← hthr] at hx'
    simp only [thr] at hx'
    subst hx'
    have:s.length≤100000000:=by omega
    exact⟨fun h=>(by omega),fun _=>⟨⟨this,rfl,rfl,rfl⟩,this,rfl,rfl,rfl⟩⟩
def Qo (I:Alg) (args:List D) (hp:List HO):Option CT:=match args,hp with
  |[.v (.one (.p (.list .byte b)))],[]=>(fun(b:Str)=>(some (.one ⟨I.hid (b.length≤100000000),(.ret (.tup [(.agg [(.p (.int .i64 (I.hid ((oneX b).1.kind)))),(.p (.int .i64 (I.hid ((oneX b).1.id)))),(.p (.int .i64 (I.hid ((oneX b).1.n)))),(.p (.list .byte (I.hid ((oneX b).1.text))))]),(.one (.p (.list .byte (I.hid ((oneX b).2.1))))),(.one (.p (.bool (I.hid ((oneX b).2.2)))))])),[]⟩):Option CT)) b
  |_,_=>none
theorem zhF:zo Tryz.prog 70 (Qo alg):=by
  intro args hp r h
  unfold Qo at h
  split at h
  · cases h;exact fun hn=>zn1 _ hn
  · cases h
def zhE:Know Tryz.prog:=⟨70,Qo,zhF⟩
def zhD:Know Tryz.prog:=⟨70,fun I=>zu I (Qo I),zf zhF⟩
end Go.Proofs.YtcclfkakcgnacaaGreatDoor
namespace Go.Proofs.YtcclfkakcgnacaaGreatDoor
open Go Go.Sep Go.Ab Go.Jrn
set_option maxRecDepth 100000
theorem zhg: ∀ (l:Str) (i:Nat),numK i l≤i+l.length∧i≤numK i l
  |[],i=>by simp [numK]
  | c ::r,i=>by
    rw [numK]
    split
    · simp
    · split
      · simp
      · have:=zhg r (i+1);simp;omega
theorem numAt_ok {s:Str} (h:(num s).2.2=true):numAt s=((num s).1,((numK 0 s:Nat):Int))∧(num s).2.1=s.drop (numK 0 s)∧1≤numK 0 s∧numK 0 s≤s.length:=by
  obtain⟨h1,h2⟩:=VW s 0 0 s rfl h
  have:=zhg s 0
  exact⟨by unfold numAt;rw [if_pos h],h1,h2,by omega⟩
theorem numAt_no {s:Str} (h:(num s).2.2=false):numAt s=(0,0):=by unfold numAt;rw [if_neg (by rw [h];decide)]
def YT (b:Str):Int:=(b.length:Int) - ((dec b).2.length:Int)
theorem zlE (b:Str) (hneed:b.length≤50000000):Spc Tryz.prog 47 [.v (.one (.p (.list .byte b)))] [] (.ret (.tup [(.one (.row 0)),(.one (.p (.int .i64 (YT b))))])) [.row .ent 101 (((dec b).1))]:=by
  refine spcG zi mixed Tryz.func47 (by kernel_rfl) { nr:=[4],keep:=some [0,2,3,4,5,6,7,8]} [zhE,zhD] (by kernel_rfl) ?_
  intro I X hI hX
  refine zh (.code 0 [1,1,1,0] ⟨[(5,(.v (.one (.p (.list .byte b))))),(4,(.v (.one (.row 0)))),(3,(.v (.one (.p (.int .i64 0))))),(2,(.v (.one .nilS))),(0,(.v (.one (.p (.list .byte b)))))],[(.row .ent 101 ([]:List Go.Ab.Ent))],29,none⟩) (by kernel_rfl) ?_
  simp only [zl]
  generalize hd1:(dec b).1=d1
  generalize hd2:YT b=d2
  refine zA hI zi mixed [zhE,zhD] hX [0,4,5] (fun(g:List Ent × Str)=>match g with|(out,rest)=>out++(dec rest).1=d1∧(dec rest).2=(dec b).2∧out.length+rest.length≤b.length) (fun(g:List Ent × Str)=>match g with|(out,rest)=>⟨[(0,.v (.one (.p (.list .byte b)))),(4,.v (.one (.row 0))),(5,.v (.one (.p (.list .byte rest))))],[.row .ent 101 out],29,none⟩) (fun(g:List Ent × Str)=>match g with|(out,rest)=>rest.length) ([],b) (by kernel_rfl) (by kernel_rfl) ?_ ?_
  · exact⟨hd1,rfl,by simp⟩
  rintro⟨out,rest⟩ ⟨h1,h2,h3⟩ A hA
  simp only at hA
  refine zh (let y0:=I.hid (α:=(List UInt8)) (Go.Ab.Ent.text (Prod.fst (Go.Jrn.oneX rest)));let y1:=I.hid (α:=Int) (Go.Ab.Ent.kind (Prod.fst (Go.Jrn.oneX rest)));let y2:=I.hid (α:=Int) (Go.Ab.Ent.id (Prod.fst (Go.Jrn.oneX rest)));let y3:=I.hid (α:=Int) (Go.Ab.Ent.n (Prod.fst (Go.Jrn.oneX rest)));let y4:=I.sub (I.len (α:=UInt8) b) (I.len (α:=UInt8) rest);.need (I.hid (α:=(Prop)) (LE.le (List.length rest) 100000000)) (.br (I.bnot (I.hid (α:=Bool) (Prod.snd (Prod.snd (Go.Jrn.oneX rest))))) (.need (I.inr Go.IntKind.i64 y4) (.fin (.ret (.tup [(.one (.row 0)),(.one (.p (.int .i64 y4)))])) [(.row .ent 101 out)])) (.need (I.few (I.add (I.len (α:=Go.Ab.Ent) out) (I.len (α:=Go.Ab.Ent) ([(Go.Ab.Ent.mk y1 y2 y3 y0)]:List Go.Ab.Ent))) 100000000) (.need (A ⟨[(0,(.v (.one (.p (.list .byte b))))),(4,(.v (.one (.row 0)))),(5,(.v (.one (.p (.list .byte (I.hid (α:=(List UInt8)) (Prod.fst (Prod.snd (Go.Jrn.oneX rest)))))))))],[(.row .ent 101 (I.app (α:=Go.Ab.Ent) out ([(Go.Ab.Ent.mk y1 y2 y3 y0)]:List Go.Ab.Ent)))],29,none⟩) .qed)))) (by kernel_rfl) ?_
  simp only [zl]
  subst hI
  simp only [nrmA,nrmB,nrlB,reduceCtorEq]
  have hone:(oneX rest).2.2=true→oneM rest=some ((oneX rest).1,(oneX rest).2.1):=fun h=>by rw [oneM,if_pos h]
  have hnone:(oneX rest).2.2=false→oneM rest=none:=fun h=>by rw [oneM,if_neg (by rw [h];decide)]
  refine⟨by omega,fun h=> ?_,fun h=> ?_⟩
  · rw [QG (hnone h)] at h1 h2
    refine⟨by omega,?_,by simpa using h1⟩
    rw [← hd2,YT,← h2]
  · have hx:=WX (hone h)
    have hlt:=zg9 h
    refine⟨by simp only [List.length_cons,List.length_nil];omega,hA (out++[(oneX rest).1],(oneX rest).2.1) ⟨?_,?_,?_⟩ hlt⟩
    · rw [← h1,hx,List.append_assoc];rfl
    · rw [← h2,hx]
    · simp only [List.length_append,List.length_cons,List.length_nil];omega
def YG (I:Alg) (args:List D) (hp:List HO):Option CT:=match args,hp with
  |[.v (.one (.p (.list .byte b)))],[]=>(fun(b:Str)=>(some (.one ⟨I.hid (b.length≤50000000),(.ret (.tup [(.one (.row 0)),(.one (.p (.int .i64 (I.hid (YT b)))))])),[.row .ent 101 (I.hid (((dec b).1)))]⟩):Option CT)) b
  |_,_=>none
theorem zbC:zo Tryz.prog 47 (YG alg):=by
  intro args hp r h
  unfold YG at h
  split at h
  · cases h;exact fun hn=>zlE _ hn
  · cases h
def zbB:Know Tryz.prog:=⟨47,YG,zbC⟩
def zbA:Know Tryz.prog:=⟨47,fun I=>zu I (YG I),zf zbC⟩
end Go.Proofs.YtcclfkakcgnacaaGreatDoor
namespace Go.Proofs.YtcclfkakcgnacaaGreatDoor
open Go Go.Sep Go.Ab
set_option maxRecDepth 100000
def cfgL:Cfg:= { sl:=[⟨104,0,.byte,some 5⟩]}
def Zj (b:Str) (n:Int):Bool:=decide (0≤n∧n≤100000 - (b.length:Int))
def wrC (b x:Str):Int:=if b.length+x.length≤100000 then 0 else 16
def wrB (b x:Str):Str:=if b.length+x.length≤100000 then b++x else b
def crB (b:Str) (s n:Int):Str:=b.take (s+min (max n 0) (b.length - s)).toNat
def cuB (b:Str) (n:Int):Str:=if 0≤n∧n<b.length then b.take n.toNat else b
def cuS (b:Str) (s n:Int):Int:=if 0≤n∧n<b.length then min s n else s
theorem zn2:Spc Tryz.prog 26 [] [] (.ret (.v (.one (.ptr 0 0)))) [.pack [.obj 104 [(.row 1),(.p (.int .i64 0))],.row .byte 5 ([])]]:=by
  refine spcG zi mixed Tryz.func26 (by kernel_rfl) { cfgL with keep:=some [0]} [] (by kernel_rfl) ?_
  intro I X hI hX
  refine zh (.fin (.ret (.v (.one (.ptr 0 0)))) [(.pack [(.obj 104 [(.row 1),(.p (.int .i64 0))]),(.row .byte 5 ([]:List UInt8))])]) (by kernel_rfl) ?_
  simp only [zl]
  trivial
def Qp (I:Alg) (args:List D) (hp:List HO):Option CT:=match args,hp with
  |[],[]=>(fun(_:Unit)=>(some (.one ⟨I.hid (True),(.ret (.v (.one (.ptr 0 0)))),[.pack [.obj 104 [(.row 1),(.p (.int .i64 0))],.row .byte 5 (I.hid ([]))]]⟩):Option CT)) ()
  |_,_=>none
theorem zhG:zo Tryz.prog 26 (Qp alg):=by
  intro args hp r h
  unfold Qp at h
  split at h
  · cases h;exact fun hn=>zn2
  · cases h
def zli:Know Tryz.prog:=⟨26,Qp,zhG⟩
def zlh:Know Tryz.prog:=⟨26,fun I=>zu I (Qp I),zf zhG⟩
theorem znF (b:Str) (s:Int):Spc Tryz.prog 39 [.v (.one (.ptr 0 0))] [.pack [.obj 104 [(.row 1),(.p (.int .i64 s))],.row .byte 5 b]] (.ret (.v (.one (.p (.int .i64 s))))) [.pack [.obj 104 [(.row 1),(.p (.int .i64 s))],.row .byte 5 b]]:=by
  refine spcG zi mixed Tryz.func39 (by kernel_rfl) { cfgL with keep:=some [0,2]} [] (by kernel_rfl) ?_
  intro I X hI hX
  refine zh (.fin (.ret (.v (.one (.p (.int .i64 s))))) [(.pack [(.obj 104 [(.row 1),(.p (.int .i64 s))]),(.row .byte 5 b)])]) (by kernel_rfl) ?_
  simp only [zl]
  trivial
def SX (I:Alg) (args:List D) (hp:List HO):Option CT:=match args,hp with
  |[.v (.one (.ptr 0 0))],[.pack [.obj 104 [(.row 1),(.p (.int .i64 s))],.row .byte 5 b]]=>(fun(b:Str) (s:Int)=>(some (.one ⟨I.hid (True),(.ret (.v (.one (.p (.int .i64 s))))),[.pack [.obj 104 [(.row 1),(.p (.int .i64 s))],.row .byte 5 b]]⟩):Option CT)) b s
  |_,_=>none
theorem zgq:zo Tryz.prog 39 (SX alg):=by
  intro args hp r h
  unfold SX at h
  split at h
  · cases h;exact fun hn=>znF _ _
  · cases h
def zkP:Know Tryz.prog:=⟨39,SX,zgq⟩
def zkO:Know Tryz.prog:=⟨39,fun I=>zu I (SX I),zf zgq⟩
theorem bytes_ (b:Str) (s:Int) (hneed:b.length≤100000000):Spc Tryz.prog 38 [.v (.one (.ptr 0 0))] [.pack [.obj 104 [(.row 1),(.p (.int .i64 s))],.row .byte 5 b]] (.ret (.v (.one (.row 1)))) [.pack [.obj 104 [(.row 1),(.p (.int .i64 s))],.row .byte 5 b],.row .byte 5 b]:=by
  refine spcG zi mixed Tryz.func38 (by kernel_rfl) { cfgL with keep:=some [0,2]} [Va,W9] (by kernel_rfl) ?_
  intro I X hI hX
  refine zh (.need (I.hid (α:=(Prop)) (LE.le (List.length b) 100000000)) (.fin (.ret (.v (.one (.row 1)))) [(.pack [(.obj 104 [(.row 1),(.p (.int .i64 s))]),(.row .byte 5 b)]),(.row .byte 5 b)])) (by kernel_rfl) ?_
  simp only [zl]
  subst hI
  simp only [nrmA,nrmB]
  exact hneed
def Ve (I:Alg) (args:List D) (hp:List HO):Option CT:=match args,hp with
  |[.v (.one (.ptr 0 0))],[.pack [.obj 104 [(.row 1),(.p (.int .i64 s))],.row .byte 5 b]]=>(fun(b:Str) (s:Int)=>(some (.one ⟨I.hid (b.length≤100000000),(.ret (.v (.one (.row 1)))),[.pack [.obj 104 [(.row 1),(.p (.int .i64 s))],.row .byte 5 b],.row .byte 5 b]⟩):Option CT)) b s
  |_,_=>none
theorem zeR:zo Tryz.prog 38 (Ve alg):=by
  intro args hp r h
  unfold Ve at h
  split at h
  · cases h;exact fun hn=>bytes_ _ _ hn
  · cases h
def QO:Know Tryz.prog:=⟨38,Ve,zeR⟩
def QN:Know Tryz.prog:=⟨38,fun I=>zu I (Ve I),zf zeR⟩
theorem znE (b:Str) (s:Int):Spc Tryz.prog 69 [.v (.one (.ptr 0 0))] [.pack [.obj 104 [(.row 1),(.p (.int .i64 s))],.row .byte 5 b]] (.ret (.tup [])) [.pack [.obj 104 [(.row 1),(.p (.int .i64 ((b.length:Int))))],.row .byte 5 b]]:=by
  refine spcG zi mixed Tryz.func69 (by kernel_rfl) { cfgL with keep:=some [0]} [] (by kernel_rfl) ?_
  intro I X hI hX
  refine zh (.fin (.ret (.tup [])) [(.pack [(.obj 104 [(.row 1),(.p (.int .i64 (I.len (α:=UInt8) b)))]),(.row .byte 5 b)])]) (by kernel_rfl) ?_
  simp only [zl]
  subst hI
  simp only [nrmA,nrmB,nrlB,reduceCtorEq,HO.pack.injEq,HO.obj.injEq]
def SV (I:Alg) (args:List D) (hp:List HO):Option CT:=match args,hp with
  |[.v (.one (.ptr 0 0))],[.pack [.obj 104 [(.row 1),(.p (.int .i64 s))],.row .byte 5 b]]=>(fun(b:Str) (s:Int)=>(some (.one ⟨I.hid (True),(.ret (.tup [])),[.pack [.obj 104 [(.row 1),(.p (.int .i64 (I.hid ((b.length:Int)))))],.row .byte 5 b]]⟩):Option CT)) b s
  |_,_=>none
theorem zgp:zo Tryz.prog 69 (SV alg):=by
  intro args hp r h
  unfold SV at h
  split at h
  · cases h;exact fun hn=>znE _ _
  · cases h
def zgo:Know Tryz.prog:=⟨69,SV,zgp⟩
def zgn:Know Tryz.prog:=⟨69,fun I=>zu I (SV I),zf zgp⟩
theorem znN (b:Str) (s n:Int) (hneed:b.length≤100000000):Spc Tryz.prog 114 [.v (.one (.ptr 0 0)),.v (.one (.p (.int .i64 n)))] [.pack [.obj 104 [(.row 1),(.p (.int .i64 s))],.row .byte 5 b]] (.ret (.v (.one (.p (.bool ((Zj b n))))))) [.pack [.obj 104 [(.row 1),(.p (.int .i64 s))],.row .byte 5 b]]:=by
  refine spcG zi mixed Tryz.func114 (by kernel_rfl) { cfgL with keep:=some [0,1,4]} [] (by kernel_rfl) ?_
  intro I X hI hX
  refine zh (let y0:=I.sub 100000 (I.len (α:=UInt8) b);.br (I.ile 0 n) (.need (I.inr Go.IntKind.i64 y0) (.fin (.ret (.v (.one (.p (.bool (I.ile n y0)))))) [(.pack [(.obj 104 [(.row 1),(.p (.int .i64 s))]),(.row .byte 5 b)])])) (.fin (.ret (.v (.one (.p (.bool Bool.false))))) [(.pack [(.obj 104 [(.row 1),(.p (.int .i64 s))]),(.row .byte 5 b)])])) (by kernel_rfl) ?_
  simp only [zl]
  subst hI
  simp only [nrmA,nrmB,nrlB,reduceCtorEq]
  unfold Zj
  exact⟨fun h=>⟨by omega,decide_eq_decide.2 (by omega)⟩,fun h=>(decide_eq_false (by omega)).symm⟩
def Rw (I:Alg) (args:List D) (hp:List HO):Option CT:=match args,hp with
  |[.v (.one (.ptr 0 0)),.v (.one (.p (.int .i64 n)))],[.pack [.obj 104 [(.row 1),(.p (.int .i64 s))],.row .byte 5 b]]=>(fun(b:Str) (s n:Int)=>(some (.one ⟨I.hid (b.length≤100000000),(.ret (.v (.one (.p (.bool (I.hid ((Zj b n)))))))),[.pack [.obj 104 [(.row 1),(.p (.int .i64 s))],.row .byte 5 b]]⟩):Option CT)) b s n
  |_,_=>none
theorem zgQ:zo Tryz.prog 114 (Rw alg):=by
  intro args hp r h
  unfold Rw at h
  split at h
  · cases h;exact fun hn=>znN _ _ _ hn
  · cases h
def zgP:Know Tryz.prog:=⟨114,Rw,zgQ⟩
def zgO:Know Tryz.prog:=⟨114,fun I=>zu I (Rw I),zf zgQ⟩
theorem zlQ (b x:Str) (s:Int) (hneed:b.length≤100000∧x.length≤100000000):Spc Tryz.prog 117 [.v (.one (.ptr 0 0)),.v (.one (.p (.list .byte x)))] [.pack [.obj 104 [(.row 1),(.p (.int .i64 s))],.row .byte 5 b]] (.ret (.v (.one (.p (.int .i64 ((wrC b x))))))) [.pack [.obj 104 [(.row 1),(.p (.int .i64 s))],.row .byte 5 ((wrB b x))]]:=by
  refine spcG zi mixed Tryz.func117 (by kernel_rfl) { cfgL with keep:=some [0,1,4]} [zgP,zgO] (by kernel_rfl) ?_
  intro I X hI hX
  refine zh (.need (I.hid (α:=(Prop)) (LE.le (List.length b) 100000000)) (.br (I.bnot (I.hid (α:=Bool) (Zj b (I.len (α:=UInt8) x)))) (.fin (.ret (.v (.one (.p (.int .i64 16))))) [(.pack [(.obj 104 [(.row 1),(.p (.int .i64 s))]),(.row .byte 5 b)])]) (.need (I.few (I.add (I.len (α:=UInt8) b) (I.len (α:=UInt8) x)) 140737488355328) (.fin (.ret (.v (.one (.p (.int .i64 0))))) [(.pack [(.obj 104 [(.row 1),(.p (.int .i64 s))]),(.row .byte 5 (I.app (α:=UInt8) b x))])])))) (by kernel_rfl) ?_
  simp only [zl]
  subst hI
  have hr:Zj b (x.length:Int)=decide (b.length+x.length≤100000):=by unfold Zj;exact decide_eq_decide.2 (by omega)
  simp only [nrmA,nrmB,nrlB,reduceCtorEq,HO.pack.injEq,HO.obj.injEq]
  rw [hr]
  by_cases hc:b.length+x.length≤100000
  · simp only [wrC,wrB,if_pos hc,decide_eq_true hc]
    simp only [nrmA,nrmB,nrlB,reduceCtorEq]
    exact⟨by omega,fun h=>h.elim,fun _=>by omega⟩
  · simp only [wrC,wrB,if_neg hc,decide_eq_false hc]
    simp only [nrmA,nrmB,nrlB,reduceCtorEq]
    exact⟨by omega,fun _=>trivial,fun h=>h.elim⟩
def XR (I:Alg) (args:List D) (hp:List HO):Option CT:=match args,hp with
  |[.v (.one (.ptr 0 0)),.v (.one (.p (.list .byte x)))],[.pack [.obj 104 [(.row 1),(.p (.int .i64 s))],.row .byte 5 b]]=>(fun(b x:Str) (s:Int)=>(some (.one ⟨I.hid (b.length≤100000∧x.length≤100000000),(.ret (.v (.one (.p (.int .i64 (I.hid ((wrC b x)))))))),[.pack [.obj 104 [(.row 1),(.p (.int .i64 s))],.row .byte 5 (I.hid ((wrB b x)))]]⟩):Option CT)) b x s
  |_,_=>none
theorem zc3:zo Tryz.prog 117 (XR alg):=by
  intro args hp r h
  unfold XR at h
  split at h
  · cases h;exact fun hn=>zlQ _ _ _ hn
  · cases h
def ziQ:Know Tryz.prog:=⟨117,XR,zc3⟩
def ziP:Know Tryz.prog:=⟨117,fun I=>zu I (XR I),zf zc3⟩
theorem znj (b:Str) (s n:Int) (hneed:b.length≤100000∧0≤s∧s≤b.length):Spc Tryz.prog 46 [.v (.one (.ptr 0 0)),.v (.one (.p (.int .i64 n)))] [.pack [.obj 104 [(.row 1),(.p (.int .i64 s))],.row .byte 5 b]] (.ret (.tup [])) [.pack [.obj 104 [(.row 1),(.p (.int .i64 (((crB b s n).length:Int))))],.row .byte 5 ((crB b s n))]]:=by
  refine spcG zi mixed Tryz.func46 (by kernel_rfl) { cfgL with cut:=[35],keep:=some [0,1,4]} [zgo,zgn] (by kernel_rfl) ?_
  intro I X hI hX
  refine zh (let y0:=I.add s (I.imin (I.imax n 0) (I.sub (I.len (α:=UInt8) b) s));.need (I.inr Go.IntKind.i64 (I.sub (I.len (α:=UInt8) b) s)) (.need (I.inr Go.IntKind.i64 y0) (.need (I.inr Go.IntKind.i64 y0) (.need (I.same (α:=Int) y0 y0) (.need (I.cutb 0 y0 (I.len (α:=UInt8) b)) (.need (I.same (α:=Int) 0 0) (.need (I.hid (α:=(Prop)) True) (.fin (.ret (.tup [])) [(.pack [(.obj 104 [(.row 1),(.p (.int .i64 (I.hid (α:=Int) (Nat.cast (List.length (I.cut (α:=UInt8) b 0 y0))))))]),(.row .byte 5 (I.cut (α:=UInt8) b 0 y0))])])))))))) (by kernel_rfl) ?_
  simp only [zl]
  subst hI
  simp only [nrmA,nrmB,nrlB,reduceCtorEq,HO.pack.injEq,HO.obj.injEq]
  obtain⟨K,hK,h0,hle⟩: ∃ K:Int,s+(if(if n≤0 then 0 else n)≤(b.length:Int) - s then(if n≤0 then 0 else n) else(b.length:Int) - s)=K∧s≤K∧K≤b.length:=⟨_,rfl,by omega,by omega⟩
  have hcr:crB b s n=b.take K.toNat:=by
    unfold crB
    rw [← hK]
    congr 2
  rw [hK,hcr]
  exact⟨by omega,by omega,by omega,by omega,rfl,rfl⟩
def WY (I:Alg) (args:List D) (hp:List HO):Option CT:=match args,hp with
  |[.v (.one (.ptr 0 0)),.v (.one (.p (.int .i64 n)))],[.pack [.obj 104 [(.row 1),(.p (.int .i64 s))],.row .byte 5 b]]=>(fun(b:Str) (s n:Int)=>(some (.one ⟨I.hid (b.length≤100000∧0≤s∧s≤b.length),(.ret (.tup [])),[.pack [.obj 104 [(.row 1),(.p (.int .i64 (I.hid (((crB b s n).length:Int)))))],.row .byte 5 (I.hid ((crB b s n)))]]⟩):Option CT)) b s n
  |_,_=>none
theorem zeL:zo Tryz.prog 46 (WY alg):=by
  intro args hp r h
  unfold WY at h
  split at h
  · cases h;exact fun hn=>znj _ _ _ hn
  · cases h
def zeK:Know Tryz.prog:=⟨46,WY,zeL⟩
def zeJ:Know Tryz.prog:=⟨46,fun I=>zu I (WY I),zf zeL⟩
theorem zob (b:Str) (s n:Int) (hneed:b.length≤100000∧0≤s∧s≤b.length):Spc Tryz.prog 48 [.v (.one (.ptr 0 0)),.v (.one (.p (.int .i64 n)))] [.pack [.obj 104 [(.row 1),(.p (.int .i64 s))],.row .byte 5 b]] (.ret (.tup [])) [.pack [.obj 104 [(.row 1),(.p (.int .i64 ((cuS b s n))))],.row .byte 5 ((cuB b n))]]:=by
  refine spcG zi mixed Tryz.func48 (by kernel_rfl) { cfgL with cut:=[22],keep:=some [0,1]} [] (by kernel_rfl) ?_
  intro I X hI hX
  refine zh (.br (I.ile 0 n) (.br (I.ilt n (I.len (α:=UInt8) b)) (.need (I.same (α:=Int) n n) (.need (I.cutb 0 n (I.len (α:=UInt8) b)) (.need (I.same (α:=Int) 0 0) (.fin (.ret (.tup [])) [(.pack [(.obj 104 [(.row 1),(.p (.int .i64 (I.imin s n)))]),(.row .byte 5 (I.cut (α:=UInt8) b 0 n))])])))) (.fin (.ret (.tup [])) [(.pack [(.obj 104 [(.row 1),(.p (.int .i64 s))]),(.row .byte 5 b)])])) (.fin (.ret (.tup [])) [(.pack [(.obj 104 [(.row 1),(.p (.int .i64 s))]),(.row .byte 5 b)])])) (by kernel_rfl) ?_
  simp only [zl]
  subst hI
  simp only [nrmA,nrmB,nrlB,reduceCtorEq,HO.pack.injEq,HO.obj.injEq]
  refine⟨fun h1=>⟨fun h2=>⟨by omega,?_,?_⟩,fun h2=> ?_⟩,fun h1=> ?_⟩
  · unfold cuS;rw [if_pos (show 0≤n∧n<(b.length:Int) from⟨h1,h2⟩)];omega
  · unfold cuB;rw [if_pos (show 0≤n∧n<(b.length:Int) from⟨h1,h2⟩)]
  · unfold cuS cuB;rw [if_neg (show ¬ (0≤n∧n<(b.length:Int)) from fun h=>by omega),if_neg (show ¬ (0≤n∧n<(b.length:Int)) from fun h=>by omega)];exact⟨rfl,rfl⟩
  · unfold cuS cuB;rw [if_neg (show ¬ (0≤n∧n<(b.length:Int)) from fun h=>by omega),if_neg (show ¬ (0≤n∧n<(b.length:Int)) from fun h=>by omega)];exact⟨rfl,rfl⟩
def QJ (I:Alg) (args:List D) (hp:List HO):Option CT:=match args,hp with
  |[.v (.one (.ptr 0 0)),.v (.one (.p (.int .i64 n)))],[.pack [.obj 104 [(.row 1),(.p (.int .i64 s))],.row .byte 5 b]]=>(fun(b:Str) (s n:Int)=>(some (.one ⟨I.hid (b.length≤100000∧0≤s∧s≤b.length),(.ret (.tup [])),[.pack [.obj 104 [(.row 1),(.p (.int .i64 (I.hid ((cuS b s n)))))],.row .byte 5 (I.hid ((cuB b n)))]]⟩):Option CT)) b s n
  |_,_=>none
theorem zio:zo Tryz.prog 48 (QJ alg):=by
  intro args hp r h
  unfold QJ at h
  split at h
  · cases h;exact fun hn=>zob _ _ _ hn
  · cases h
def zin:Know Tryz.prog:=⟨48,QJ,zio⟩
def zim:Know Tryz.prog:=⟨48,fun I=>zu I (QJ I),zf zio⟩
end Go.Proofs.YtcclfkakcgnacaaGreatDoor
namespace Go.Jrn
open Go Go.Ab
theorem pow5 {i:Nat} (h:i<5):128 ^ (5 - i)=128 * 128 ^ (5 - (i+1)):=by
  rw [show 5 - i=(5 - (i+1))+1 by omega,Nat.pow_succ,Nat.mul_comm]
theorem zaN: ∀ (s:Str) (i u:Nat) (v:Int) (r:Str),numF i u s=(v,r,true)→∃ x,v=((u+x * 128 ^ i:Nat):Int) - 1∧s=sev x++r∧(0<i→0<x)∧x<128 ^ (5 - i)
  |[],i,u,v,r,h=>by simp [numF] at h
  | c :: l,i,u,v,r,h=>by
    rw [numF] at h
    split at h
    · simp at h
    · rename_i h5
      have hp:=pow5 (i:=i) (by omega)
      have hpos:0<128 ^ (5 - (i+1)):=Nat.pow_pos (by omega)
      split at h
      · rename_i hc
        simp only [Prod.mk.injEq,decide_eq_true_eq] at h
        obtain⟨rfl,rfl,h3⟩:=h
        refine⟨c.toNat,rfl,?_,by omega,by omega⟩
        rw [uM hc,UInt8.ofNat_toNat];rfl
      · rename_i hc
        obtain⟨y,h1,h2,h3,h4⟩:=zaN l (i+1) _ v r h
        have hy:=h3 (by omega)
        have hc2:c.toNat<256:=UInt8.toNat_lt c
        have h45:128 ^ (5 - (i+1))≤128 ^ 4:=Nat.pow_le_pow_right (by omega) (by omega)
        refine⟨c.toNat % 128+128 * y,?_,?_,by omega,?_⟩
        · rw [h1,Nat.pow_succ,Nat.add_mul]
          congr 2
          rw [Nat.add_assoc]
          congr 1
          rw [Nat.mul_comm (128 ^ i) 128,Nat.mul_comm 128 y,Nat.mul_assoc]
        · rw [VE (by omega) (by omega),h2,show(c.toNat % 128+128 * y) % 128+128=c.toNat by omega,show(c.toNat % 128+128 * y) / 128=y by omega,UInt8.ofNat_toNat];rfl
        · rw [hp];omega
theorem WJ {s r:Str} {v:Int} (h:num s=(v,r,true)): -1≤v∧v<34359738367∧s=sev (v+1).toNat++r:=by
  obtain⟨x,h1,h2,_,h4⟩:=zaN s 0 0 v r h
  simp only [Nat.pow_zero,Nat.mul_one,Nat.zero_add,Nat.sub_zero] at h1 h4
  have:(v+1).toNat=x:=by omega
  rw [this]
  exact⟨by omega,by omega,h2⟩
theorem zfm: ∀ (x i u:Nat) (r:Str),i<5→x<128 ^ (5 - i)→(0<i→0<x)→numF i u (sev x++r)=(((u+x * 128 ^ i:Nat):Int) - 1,r,true):=by
  intro x
  induction x using Nat.strongRecOn with
  | _ x ih=>
    intro i u r h5 hx hi
    have hp:=pow5 h5
    have h55:128 ^ (5 - i)≤128 ^ 5:=Nat.pow_le_pow_right (by omega) (by omega)
    rcases Nat.lt_or_ge x 128 with hs|hb
    · have e:(UInt8.ofNat x).toNat=x:=by rw [UInt8.toNat_ofNat'];omega
      rw [uM hs,List.cons_append,numF,if_neg (by omega),e,if_pos hs]
      simp only [List.nil_append,Prod.mk.injEq,true_and,decide_eq_true_eq]
      omega
    · have e:(UInt8.ofNat (x % 128+128)).toNat=x % 128+128:=by rw [UInt8.toNat_ofNat'];omega
      have hi4:i+1<5:=by
        rcases Nat.lt_or_ge (i+1) 5 with h|h
        · exact h
        · have:i=4:=by omega
          subst this;simp at hx;omega
      rw [VE hb (by omega),List.cons_append,numF,if_neg (by omega),e,if_neg (by omega),ih (x / 128) (by omega) (i+1) _ r hi4 (by rw [Nat.div_lt_iff_lt_mul (by omega),Nat.mul_comm];omega) (by omega)]
      simp only [Prod.mk.injEq,and_true]
      congr 2
      rw [show(x % 128+128) % 128=x % 128 by omega,Nat.pow_succ,Nat.add_assoc]
      congr 1
      rw [Nat.mul_comm (128 ^ i) 128,← Nat.mul_assoc,← Nat.add_mul]
      congr 1
      omega
theorem qg {v:Int} {r:Str} (h1: -1≤v) (h2:v<34359738367):num (sev (v+1).toNat++r)=(v,r,true):=by
  rw [num,zfm (v+1).toNat 0 0 r (by omega) (by simp;omega) (by omega)]
  simp only [Nat.pow_zero,Nat.mul_one,Nat.zero_add,Prod.mk.injEq,and_true]
  omega
theorem zhh: ∀ (x i u:Nat) (p:Str),x<128 ^ 9→p.length<(sev x).length→p<+:sev x→(numF i u p).2.2=false:=by
  intro x
  induction x using Nat.strongRecOn with
  | _ x ih=>
    intro i u p hx hl hp
    cases p with
    |nil=>rfl
    | cons c p=>
      rcases Nat.lt_or_ge x 128 with hs|hb
      · rw [uM hs] at hl;simp at hl
      · rw [VE hb hx] at hl hp
        obtain⟨rfl,hp2⟩:=List.cons_prefix_cons.1 hp
        have e:(UInt8.ofNat (x % 128+128)).toNat=x % 128+128:=by rw [UInt8.toNat_ofNat'];omega
        rw [numF]
        split
        · rfl
        · rw [e,if_neg (by omega)]
          exact ih (x / 128) (by omega) (i+1) _ p (Nat.lt_of_le_of_lt (Nat.div_le_self _ _) hx) (by simpa using hl) hp2
theorem ze1 {s t:Str} {k i n:Int} (h:three s=some (k,i,n,t)):s=sev (k+1).toNat++sev (i+1).toNat++sev (n+1).toNat++t:=by
  unfold three at h
  split at h
  · rename_i k' r1 h1
    split at h
    · rename_i i' r2 h2
      split at h
      · rename_i n' r3 h3
        simp only [Option.some.injEq,Prod.mk.injEq] at h
        obtain⟨rfl,rfl,rfl,rfl⟩:=h
        obtain⟨_,_,e1⟩:=WJ h1
        obtain⟨_,_,e2⟩:=WJ h2
        obtain⟨_,_,e3⟩:=WJ h3
        rw [e1,e2,e3];simp only [List.append_assoc]
      · cases h
    · cases h
  · cases h
theorem zb2 {k i n:Int} {t:Str} (hk: -1≤k∧k<34359738367) (hi: -1≤i∧i<34359738367) (hn: -1≤n∧n<34359738367):three (sev (k+1).toNat++sev (i+1).toNat++sev (n+1).toNat++t)=some (k,i,n,t):=by
  unfold three
  rw [List.append_assoc,List.append_assoc,qg hk.1 hk.2]
  simp only
  rw [qg hi.1 hi.2]
  simp only
  rw [qg hn.1 hn.2]
theorem zhc {s r:Str} {e:Ent} (h:oneM s=some (e,r)):mayM e=true∧s=encB e++r:=by
  unfold oneM at h
  split at h
  · rename_i hx
    simp only [Option.some.injEq,Prod.mk.injEq] at h
    obtain⟨rfl,rfl⟩:=h
    unfold oneX at hx ⊢
    split at hx
    · rename_i n q hn
      split at hx
      · cases hx
      · rename_i hc
        rw [if_neg hc]
        split at hx
        · rename_i k i m t ht
          simp only [ht]
          refine⟨hx,?_⟩
          obtain⟨_,_,e1⟩:=WJ hn
          have e2:=ze1 ht
          have hl:(q.take n.toNat).length=n.toNat:=by rw [List.length_take];omega
          have e3:enc3 ⟨k,i,m,t⟩=q.take n.toNat:=by rw [e2];rfl
          rw [encB,e3,hl,show n.toNat+1=(n+1).toNat by omega,List.append_assoc,List.take_append_drop]
          exact e1
        · cases hx
    · cases hx
  · cases h
theorem zaP {e:Ent} (h:mayM e=true):(-1≤e.kind∧e.kind<34359738367)∧(-1≤e.id∧e.id<34359738367)∧(-1≤e.n∧e.n<34359738367)∧e.text.length<1048576:=by
  simp only [mayM,few,Bool.and_eq_true,decide_eq_true_eq] at h
  omega
theorem zeB {e:Ent} (h:mayM e=true):(enc3 e).length<1048606:=by
  have:=zaP h
  have h1:=yC (e.kind+1).toNat
  have h2:=yC (e.id+1).toNat
  have h3:=yC (e.n+1).toNat
  simp only [enc3,List.length_append];omega
theorem TD {e:Ent} (r:Str) (h:mayM e=true):oneM (encB e++r)=some (e,r):=by
  have hl:=zeB h
  obtain⟨h1,h2,h3,_⟩:=zaP h
  have hn:num (encB e++r)=(((enc3 e).length:Int),enc3 e++r,true):=by
    have:=qg (v:=((enc3 e).length:Int)) (r:=enc3 e++r) (by omega) (by omega)
    rw [show(((enc3 e).length:Int)+1).toNat=(enc3 e).length+1 by omega] at this
    rw [encB,List.append_assoc];exact this
  have hx:oneX (encB e++r)=(e,r,true):=by
    unfold oneX
    rw [hn]
    simp only
    rw [if_neg (by rw [List.length_append];omega),Int.toNat_natCast,List.take_left' rfl,List.drop_left' rfl]
    have ht:three (enc3 e)=some (e.kind,e.id,e.n,e.text):=zb2 h1 h2 h3
    rw [ht]
    simp only
    have:mayM ⟨e.kind,e.id,e.n,e.text⟩=true:=h
    rw [this]
  rw [oneM,hx];rfl
theorem zha {e:Ent} {p:Str} (h:mayM e=true) (hp:p<+:encB e) (hl:p.length<(encB e).length):oneM p=none:=by
  have hlen:=zeB h
  rw [encB] at hp hl
  rw [List.length_append] at hl
  rcases Nat.lt_or_ge p.length (sev ((enc3 e).length+1)).length with h1|h1
  · refine zhb ?_
    have hp2:p<+:sev ((enc3 e).length+1):=by
      obtain⟨t,ht⟩:=hp
      have:=congrArg (List.take p.length) ht
      rw [List.take_left' rfl,List.take_append_of_le_length (by omega)] at this
      rw [this];exact List.take_prefix _ _
    exact zhh _ 0 0 p (by omega) h1 hp2
  · obtain⟨t,ht⟩:=hp
    have e1:p=sev ((enc3 e).length+1)++p.drop (sev ((enc3 e).length+1)).length:=by
      have:=congrArg (List.take (sev ((enc3 e).length+1)).length) ht
      rw [List.take_left' rfl,List.take_append_of_le_length h1] at this
      rw [← this]
      rw [List.length_take,Nat.min_eq_left h1,List.take_append_drop]
    have hn:=qg (v:=((enc3 e).length:Int)) (r:=p.drop (sev ((enc3 e).length+1)).length) (by omega) (by omega)
    rw [show(((enc3 e).length:Int)+1).toNat=(enc3 e).length+1 by omega,← e1] at hn
    refine zjA (.inr ?_)
    rw [hn]
    simp only [List.length_drop]
    omega
def yB:List Ent→Str
  |[]=>[]
  |e::l=>encB e++yB l
theorem encAll_append (a b:List Ent):yB (a++b)=yB a++yB b:=by
  induction a with
  |nil=>rfl
  |cons e l ih=>simp [yB,ih,List.append_assoc]
theorem zeG: ∀ (f:Nat) (b:Str),b.length≤f→b=yB (dec b).1++(dec b).2∧∀ e ∈ (dec b).1,mayM e=true
  | f, b, hf=>by
    cases ho:oneM b with
    |none=>rw [QG ho];exact⟨rfl,fun e h=>by cases h⟩
    | some p=>
      obtain⟨e,r⟩:=p
      obtain⟨h1,h2⟩:=zhc ho
      have hlt:=RV ho
      cases f with
      |zero=>omega
      | succ f=>
        obtain⟨h3,h4⟩:=zeG f r (by omega)
        rw [WX ho]
        refine⟨?_,fun x hx=> ?_⟩
        · simp only [yB]
          rw [List.append_assoc,← h3];exact h2
        · cases hx with
          |head=>exact h1
          |tail _ h=>exact h4 x h
theorem zik: ∀ (l:List Ent) (r:Str),(∀ e ∈ l,mayM e=true)→dec (yB l++r)=(l++(dec r).1,(dec r).2)
  |[],r,_=>rfl
  | e::l,r,h=>by
    rw [yB,List.append_assoc,WX (TD _ (h e (List.mem_cons_self ..))),zik l r fun x hx=>h x (List.mem_cons_of_mem _ hx)];rfl
theorem torn: ∀ (l:List Ent) (k:Nat),(∀ e ∈ l,mayM e=true)→k≤(yB l).length→∃ W,W≤l.length∧(yB (l.take W)).length≤k∧(∀ j,j<l.length→((yB (l.take (j+1))).length≤k↔j<W))∧
    (dec ((yB l).take k)).1=l.take W∧(dec ((yB l).take k)).2.length+(yB (l.take W)).length=k
  | [],k,_,hk=>by
    have:k=0:=by simpa [yB] using hk
    subst this
    exact⟨0,Nat.le_refl _,Nat.le_refl _,fun j hj=>by simp at hj,rfl,rfl⟩
  | e :: l,k,hm,hk=>by
    have he:=hm e (List.mem_cons_self ..)
    simp only [yB,List.length_append] at hk
    rcases Nat.lt_or_ge k (encB e).length with h1|h1
    · have ht:(yB (e::l)).take k=(encB e).take k:=by rw [yB,List.take_append_of_le_length (by omega)]
      have hl:((encB e).take k).length=k:=by rw [List.length_take];omega
      have hn:=zha he (List.take_prefix k (encB e)) (by omega)
      rw [ht,QG hn]
      refine⟨0,Nat.zero_le _,Nat.zero_le _,fun j _=>⟨fun h=> ?_,fun h=>by omega⟩,rfl,by simp [yB,hl]⟩
      rw [List.take_succ_cons,yB,List.length_append] at h;omega
    · obtain⟨W,a1,a2,a3,a4,a5⟩:=torn l (k - (encB e).length) (fun x hx=>hm x (List.mem_cons_of_mem _ hx)) (by omega)
      have ht:(yB (e::l)).take k=encB e++(yB l).take (k - (encB e).length):=by
        rw [yB,List.take_append,List.take_of_length_le h1]
      rw [ht,WX (TD _ he)]
      refine⟨W+1,by simp;omega,?_,fun j hj=> ?_,by simp [a4],?_⟩
      · rw [List.take_succ_cons,yB,List.length_append];omega
      · rw [List.take_succ_cons,yB,List.length_append]
        cases j with
        |zero=>simp [yB];omega
        | succ j=>
          have:=a3 j (by simpa using hj)
          omega
      · rw [List.take_succ_cons,yB,List.length_append];simp only;omega
theorem zjU {e:Ent} (h:mayM e=true):(encB e).length≤e.text.length+50:=by
  have h0:=yC ((enc3 e).length+1)
  have h1:=yC (e.kind+1).toNat
  have h2:=yC (e.id+1).toNat
  have h3:=yC (e.n+1).toNat
  simp only [encB,enc3,List.length_append] at h0 ⊢;omega
end Go.Jrn
namespace Go.Proofs.YtcclfkakcgnacaaGreatDoor
open Go Go.Sep Go.Ab Go.Jrn
def Ry (l:List Upl) (n:Int) (e:Ent):Int:=
  if e.kind=1 then(if creC l e.n e.text=0∧¬ n+1=e.id then 20 else creC l e.n e.text)
  else if e.kind=2 then appC l e.id (getU l e.id).bytes.length e.text
  else if e.kind=3 then decC l e.id e.n
  else if e.kind=4 then droC l e.id
  else if e.kind=5 then begC l e.id
  else endC l e.id
def Yl (l:List Upl) (n:Int) (e:Ent):List Upl:=
  if e.kind=1 then creL l n e.n e.text
  else if e.kind=2 then appL l e.id (getU l e.id).bytes.length e.text
  else if e.kind=3 then decL l e.id e.n
  else if e.kind=4 then droL l e.id
  else if e.kind=5 then begL l e.id
  else endL l e.id
def qc (l:List Upl) (n:Int) (e:Ent):Int:=if e.kind=1 then creN l n e.n e.text else n
theorem zgV {l:List Upl} {n:Int} (h:zy l n) (e:Ent):zy (Yl l n e) (qc l n e):=by
  unfold Yl qc
  split
  · exact zni h _ _
  split
  · exact znt h _ _ _
  split
  · exact zng h _ _
  split
  · exact zne h _
  split
  · exact znr h _
  · exact znc h _
theorem Rx (l:List Upl) (n:Int) (e:Ent):n≤qc l n e∧qc l n e≤n+1:=by
  unfold qc creN
  split
  · split<;>omega
  · omega
def replay:List Upl × Int→List Ent→List Upl × Int
  |p,[]=>p
  |p,e::es=>replay (Yl p.1 p.2 e,qc p.1 p.2 e) es
theorem Tj: ∀ (a b:List Ent) (p:List Upl × Int),replay p (a++b)=replay (replay p a) b
  |[],_,_=>rfl
  |_::a,b,_=>Tj a b _
theorem zaE: ∀ (es:List Ent) (p:List Upl × Int),zy p.1 p.2→zy (replay p es).1 (replay p es).2
  |[],_,h=>h
  |e::es,_,h=>zaE es _ (zgV h e)
theorem zdH: ∀ (es:List Ent) (p:List Upl × Int),(replay p es).2≤p.2+es.length
  |[],_=>by simp [replay]
  | e::es,p=>by
    have:=zdH es (Yl p.1 p.2 e,qc p.1 p.2 e)
    have:=Rx p.1 p.2 e
    simp only [replay,List.length_cons] at *
    omega
theorem zch {es:List Ent} {i:Nat} (p:List Upl × Int) (h:i<es.length):replay p (es.take (i+1))=(Yl (replay p (es.take i)).1 (replay p (es.take i)).2 es[i],qc (replay p (es.take i)).1 (replay p (es.take i)).2 es[i]):=by
  rw [List.take_succ_eq_append_getElem h,Tj];rfl
def wrtC (l:List Upl) (n:Int) (b:Str) (e:Ent):Int:=
  if ¬ Ry l n e=0 then Ry l n e else if ¬ encC e=0 then encC e else wrC b (encM e)
def wrtL (l:List Upl) (n:Int) (b:Str) (e:Ent):List Upl:=if wrtC l n b e=0 then Yl l n e else l
def wrtN (l:List Upl) (n:Int) (b:Str) (e:Ent):Int:=if wrtC l n b e=0 then qc l n e else n
def wrtB (l:List Upl) (n:Int) (b:Str) (e:Ent):Str:=if wrtC l n b e=0 then b++encB e else b
theorem zfX {l:List Upl} {n:Int} (h:zy l n) (b:Str) (e:Ent):zy (wrtL l n b e) (wrtN l n b e):=by
  unfold wrtL wrtN
  split
  · exact zgV h e
  · exact h
theorem zfY (l:List Upl) (n:Int) (b:Str) (e:Ent):n≤wrtN l n b e∧wrtN l n b e≤n+1:=by
  have:=Rx l n e
  unfold wrtN
  split<;>omega
theorem ziO {l:List Upl} {n:Int} {b:Str} {e:Ent} (h:wrtC l n b e=0):Ry l n e=0∧mayM e=true∧b.length+(encB e).length≤100000:=by
  unfold wrtC at h
  split at h
  · rename_i h1;exact absurd h h1
  rename_i h1
  split at h
  · rename_i h2;exact absurd h h2
  rename_i h2
  have hm:mayM e=true:=by
    unfold encC at h2
    cases hm:mayM e with
    |true=>rfl
    |false=>rw [hm] at h2;simp at h2
  unfold wrC at h
  split at h
  · rename_i h3
    refine⟨Decidable.not_not.1 h1,hm,?_⟩
    unfold encM at h3
    rw [if_pos hm] at h3
    exact h3
  · cases h
theorem SB {l:List Upl} {n:Int} {b:Str} (e:Ent) (h:b.length≤100000):(wrtB l n b e).length≤100000:=by
  unfold wrtB
  split
  · rename_i h1
    rw [List.length_append];exact(ziO h1).2.2
  · exact h
def crsB (b:Str) (s k:Int):Str:=cuB (crB b s k) (YT (crB b s k))
def crsE (b:Str) (s k:Int):List Ent:=(Jrn.dec (crB b s k)).1
def crsP (b:Str) (s k:Int):List Upl × Int:=replay ([],0) (crsE b s k)
theorem zc7 (b:Str):0≤YT b∧YT b≤b.length:=by
  have:=Jrn.zij b
  unfold YT
  omega
theorem zjW (b:Str) (s k:Int):cuS (crB b s k) (crB b s k).length (YT (crB b s k))=(crsB b s k).length:=by
  have:=zc7 (crB b s k)
  unfold crsB cuS cuB
  split
  · rw [List.length_take];omega
  · rfl
theorem zcK (b:Str) (s k:Int):(crB b s k).length≤b.length:=by unfold crB;rw [List.length_take];omega
theorem crsB_len (b:Str) (s k:Int):(crsB b s k).length≤b.length:=by
  have:=zcK b s k
  unfold crsB cuB
  split
  · rw [List.length_take];omega
  · exact this
theorem Sr: ∀ {es:List Ent} {e:Ent},e ∈ es→(encB e).length≤(yB es).length
  | f::es,e,h=>by
    simp only [yB,List.length_append]
    rcases List.mem_cons.1 h with rfl|h
    · omega
    · have:=Sr h;omega
theorem zjR (e:Ent):e.text.length≤(encB e).length:=by unfold encB enc3;simp only [List.length_append];omega
theorem zfJ {b:Str} {s k:Int} (h:b.length≤100000):(crsE b s k).length≤100000∧∀ e ∈ crsE b s k,e.text.length≤100000:=by
  have h1:=zcK b s k
  have h2:=Jrn.zij (crB b s k)
  have h3:=Jrn.zeG _ (crB b s k) (Nat.le_refl _)
  have h4:=congrArg List.length h3.1
  rw [List.length_append] at h4
  unfold crsE
  refine⟨by omega,fun e he=> ?_⟩
  have:=Sr he
  have:=zjR e
  omega
end Go.Proofs.YtcclfkakcgnacaaGreatDoor
namespace Go.Proofs.YtcclfkakcgnacaaGreatDoor
open Go Go.Sep Go.Ab Go.Jrn
set_option maxRecDepth 100000
def XP:Cfg:= { sl:=[⟨90,0,.upl,some 67⟩,⟨104,0,.byte,some 5⟩]}
theorem zkQ:Spc Tryz.prog 8 [] [] (.ret (.v (.one (.ptr 0 0)))) [.pack [.obj 48 [(.ptr 1 0),(.ptr 2 0)],.pack [.obj 90 [(.row 1),(.p (.int .i64 0))],.row .upl 67 ([])],.pack [.obj 104 [(.row 1),(.p (.int .i64 0))],.row .byte 5 ([])]]]:=by
  refine spcG zi mixed Tryz.func8 (by kernel_rfl) { XP with keep:=some [0]} [zcb,zca,zli,zlh] (by kernel_rfl) ?_
  intro I X hI hX
  refine zh (.need (I.hid (α:=(Prop)) True) (.need (I.hid (α:=(Prop)) True) (.fin (.ret (.v (.one (.ptr 0 0)))) [(.pack [(.obj 48 [(.ptr 1 0),(.ptr 2 0)]),(.pack [(.obj 90 [(.row 1),(.p (.int .i64 0))]),(.row .upl 67 (I.hid (α:=(List Go.Ab.Upl)) ([]:List Go.Ab.Upl)))]),(.pack [(.obj 104 [(.row 1),(.p (.int .i64 0))]),(.row .byte 5 (I.hid (α:=(List UInt8)) ([]:List UInt8)))])])]))) (by kernel_rfl) ?_
  simp only [zl]
  subst hI
  exact⟨trivial,trivial,trivial,rfl⟩
def ZT (I:Alg) (args:List D) (hp:List HO):Option CT:=match args,hp with
  |[],[]=>(fun(_:Unit)=>(some (.one ⟨I.hid (True),(.ret (.v (.one (.ptr 0 0)))),[.pack [.obj 48 [(.ptr 1 0),(.ptr 2 0)],.pack [.obj 90 [(.row 1),(.p (.int .i64 0))],.row .upl 67 (I.hid ([]))],.pack [.obj 104 [(.row 1),(.p (.int .i64 0))],.row .byte 5 (I.hid ([]))]]]⟩):Option CT)) ()
  |_,_=>none
theorem zas:zo Tryz.prog 8 (ZT alg):=by
  intro args hp r h
  unfold ZT at h
  split at h
  · cases h;exact fun hn=>zkQ
  · cases h
def rV:Know Tryz.prog:=⟨8,ZT,zas⟩
def rU:Know Tryz.prog:=⟨8,fun I=>zu I (ZT I),zf zas⟩
set_option maxHeartbeats 4000000 in
theorem zmd (l:List Upl) (n k i m:Int) (t:Str) (hneed:zy l n∧n≤1000000∧t.length≤1000000):Spc Tryz.prog 49 [.v (.one (.ptr 0 0)),.v (.agg [(.p (.int .i64 k)),(.p (.int .i64 i)),(.p (.int .i64 m)),(.p (.list .byte t))])] [.pack [.obj 90 [(.row 1),(.p (.int .i64 n))],.row .upl 67 l]] (.ret (.v (.one (.p (.int .i64 ((Ry l n ⟨k,i,m,t⟩))))))) [.pack [.obj 90 [(.row 1),(.p (.int .i64 ((qc l n ⟨k,i,m,t⟩))))],.row .upl 67 ((Yl l n ⟨k,i,m,t⟩))]]:=by
  obtain⟨hs,hn,ht⟩:=hneed
  generalize hc:Ry l n ⟨k,i,m,t⟩=c
  generalize hl:Yl l n ⟨k,i,m,t⟩=l'
  generalize hN:qc l n ⟨k,i,m,t⟩=n'
  refine spcG zi mixed Tryz.func49 (by kernel_rfl) { XP with keep:=some [0,1,3,4,5,6,7,10]} [zfc,zfb,zfe,zfd,zcd,zcc,zgN,zgM,zkW,zkV,qK,qJ,Y2,Y1,zjl,zjk] (by kernel_rfl) ?_
  intro I X hI hX
  refine zh (let y0:=I.hid (α:=(List Go.Ab.Upl)) (creL l n m t);let y1:=I.len (α:=UInt8) (I.hid (α:=(List UInt8)) (Go.Ab.Upl.bytes (getU l i)));.br (I.ieq k 1) (.need (I.hid (α:=(Prop)) (And (zy l n) (And (LE.le n (1000000:Int)) (LE.le (List.length t) 1000000)))) (.br (I.ieq (I.hid (α:=Int) (creC l m t)) 0) (.br (I.bnot (I.ieq (I.hid (α:=Int) (creI l n m t)) i)) (.fin (.ret (.v (.one (.p (.int .i64 20))))) [(.pack [(.obj 90 [(.row 1),(.p (.int .i64 (I.hid (α:=Int) (creN l n m t))))]),(.row .upl 67 y0)])]) (.fin (.ret (.v (.one (.p (.int .i64 (I.hid (α:=Int) (creC l m t))))))) [(.pack [(.obj 90 [(.row 1),(.p (.int .i64 (I.hid (α:=Int) (creN l n m t))))]),(.row .upl 67 y0)])])) (.fin (.ret (.v (.one (.p (.int .i64 (I.hid (α:=Int) (creC l m t))))))) [(.pack [(.obj 90 [(.row 1),(.p (.int .i64 (I.hid (α:=Int) (creN l n m t))))]),(.row .upl 67 y0)])]))) (.br (I.ieq k 2) (.need (I.hid (α:=(Prop)) (zy l n)) (.need (I.hid (α:=(Prop)) (And (zy l n) (LE.le (List.length t) 1000000))) (.fin (.ret (.v (.one (.p (.int .i64 (I.hid (α:=Int) (appC l i y1 t))))))) [(.pack [(.obj 90 [(.row 1),(.p (.int .i64 n))]),(.row .upl 67 (I.hid (α:=(List Go.Ab.Upl)) (appL l i y1 t)))])]))) (.br (I.ieq k 3) (.need (I.hid (α:=(Prop)) (zy l n)) (.fin (.ret (.v (.one (.p (.int .i64 (I.hid (α:=Int) (decC l i m))))))) [(.pack [(.obj 90 [(.row 1),(.p (.int .i64 n))]),(.row .upl 67 (I.hid (α:=(List Go.Ab.Upl)) (decL l i m)))])])) (.br (I.ieq k 4) (.need (I.hid (α:=(Prop)) (zy l n)) (.fin (.ret (.v (.one (.p (.int .i64 (I.hid (α:=Int) (droC l i))))))) [(.pack [(.obj 90 [(.row 1),(.p (.int .i64 n))]),(.row .upl 67 (I.hid (α:=(List Go.Ab.Upl)) (droL l i)))])])) (.br (I.ieq k 5) (.need (I.hid (α:=(Prop)) (zy l n)) (.fin (.ret (.v (.one (.p (.int .i64 (I.hid (α:=Int) (begC l i))))))) [(.pack [(.obj 90 [(.row 1),(.p (.int .i64 n))]),(.row .upl 67 (I.hid (α:=(List Go.Ab.Upl)) (begL l i)))])])) (.need (I.hid (α:=(Prop)) (zy l n)) (.fin (.ret (.v (.one (.p (.int .i64 (I.hid (α:=Int) (endC l i))))))) [(.pack [(.obj 90 [(.row 1),(.p (.int .i64 n))]),(.row .upl 67 (I.hid (α:=(List Go.Ab.Upl)) (endL l i)))])]))))))) (by kernel_rfl) ?_
  simp only [zl]
  subst hI
  simp only [nrmA,nrmB,nrlB,reduceCtorEq,HO.pack.injEq,HO.obj.injEq]
  unfold Ry at hc
  unfold Yl at hl
  unfold qc at hN
  simp only at hc hl hN
  have hci:creC l m t=0→creI l n m t=n+1:=fun h=>by unfold creI;rw [if_pos h]
  (repeat' (first|refine And.intro ?_ ?_|intro _))<;>first|omega|exact True.intro|exact False.elim ‹False›|skip
  all_goals first
    |exact hs
    |exact hn
    |exact ht
    |exact⟨hs,hn,ht⟩
    |exact⟨hs,ht⟩
    |(have:=hci (by assumption);((repeat(first|rewrite [if_pos (by first|omega|assumption|(simp only [*,or_self,or_true,true_or,or_false,false_or,not_true_eq_false,not_false_eq_true,Bool.false_eq_true,Bool.true_eq_false,and_self,and_true,true_and];done)|(simp only [*];omega)|(simp [*];done)|(simp [*];omega))] at hc|rewrite [if_neg (by first|omega|assumption|(simp only [*,or_self,or_true,true_or,or_false,false_or,not_true_eq_false,not_false_eq_true,Bool.false_eq_true,Bool.true_eq_false,and_self,and_true,true_and];done)|(simp only [*];omega)|(simp [*];done)|(simp [*];omega))] at hc)));subst hc;((repeat(first|rewrite [if_pos (by first|omega|assumption|(simp only [*,or_self,or_true,true_or,or_false,false_or,not_true_eq_false,not_false_eq_true,Bool.false_eq_true,Bool.true_eq_false,and_self,and_true,true_and];done)|(simp only [*];omega)|(simp [*];done)|(simp [*];omega))] at hl|rewrite [if_neg (by first|omega|assumption|(simp only [*,or_self,or_true,true_or,or_false,false_or,not_true_eq_false,not_false_eq_true,Bool.false_eq_true,Bool.true_eq_false,and_self,and_true,true_and];done)|(simp only [*];omega)|(simp [*];done)|(simp [*];omega))] at hl)));subst hl;((repeat(first|rewrite [if_pos (by first|omega|assumption|(simp only [*,or_self,or_true,true_or,or_false,false_or,not_true_eq_false,not_false_eq_true,Bool.false_eq_true,Bool.true_eq_false,and_self,and_true,true_and];done)|(simp only [*];omega)|(simp [*];done)|(simp [*];omega))] at hN|rewrite [if_neg (by first|omega|assumption|(simp only [*,or_self,or_true,true_or,or_false,false_or,not_true_eq_false,not_false_eq_true,Bool.false_eq_true,Bool.true_eq_false,and_self,and_true,true_and];done)|(simp only [*];omega)|(simp [*];done)|(simp [*];omega))] at hN)));subst hN;first|rfl|omega)
    |(((repeat(first|rewrite [if_pos (by first|omega|assumption|(simp only [*,or_self,or_true,true_or,or_false,false_or,not_true_eq_false,not_false_eq_true,Bool.false_eq_true,Bool.true_eq_false,and_self,and_true,true_and];done)|(simp only [*];omega)|(simp [*];done)|(simp [*];omega))] at hc|rewrite [if_neg (by first|omega|assumption|(simp only [*,or_self,or_true,true_or,or_false,false_or,not_true_eq_false,not_false_eq_true,Bool.false_eq_true,Bool.true_eq_false,and_self,and_true,true_and];done)|(simp only [*];omega)|(simp [*];done)|(simp [*];omega))] at hc)));subst hc;((repeat(first|rewrite [if_pos (by first|omega|assumption|(simp only [*,or_self,or_true,true_or,or_false,false_or,not_true_eq_false,not_false_eq_true,Bool.false_eq_true,Bool.true_eq_false,and_self,and_true,true_and];done)|(simp only [*];omega)|(simp [*];done)|(simp [*];omega))] at hl|rewrite [if_neg (by first|omega|assumption|(simp only [*,or_self,or_true,true_or,or_false,false_or,not_true_eq_false,not_false_eq_true,Bool.false_eq_true,Bool.true_eq_false,and_self,and_true,true_and];done)|(simp only [*];omega)|(simp [*];done)|(simp [*];omega))] at hl)));subst hl;((repeat(first|rewrite [if_pos (by first|omega|assumption|(simp only [*,or_self,or_true,true_or,or_false,false_or,not_true_eq_false,not_false_eq_true,Bool.false_eq_true,Bool.true_eq_false,and_self,and_true,true_and];done)|(simp only [*];omega)|(simp [*];done)|(simp [*];omega))] at hN|rewrite [if_neg (by first|omega|assumption|(simp only [*,or_self,or_true,true_or,or_false,false_or,not_true_eq_false,not_false_eq_true,Bool.false_eq_true,Bool.true_eq_false,and_self,and_true,true_and];done)|(simp only [*];omega)|(simp [*];done)|(simp [*];omega))] at hN)));subst hN;first|rfl|omega)
    |trace_state
def X3 (I:Alg) (args:List D) (hp:List HO):Option CT:=match args,hp with
  |[.v (.one (.ptr 0 0)),.v (.agg [(.p (.int .i64 k)),(.p (.int .i64 i)),(.p (.int .i64 m)),(.p (.list .byte t))])],[.pack [.obj 90 [(.row 1),(.p (.int .i64 n))],.row .upl 67 l]]=>(fun(l:List Upl) (n k i m:Int) (t:Str)=>(some (.one ⟨I.hid (zy l n∧n≤1000000∧t.length≤1000000),(.ret (.v (.one (.p (.int .i64 (I.hid ((Ry l n ⟨k,i,m,t⟩)))))))),[.pack [.obj 90 [(.row 1),(.p (.int .i64 (I.hid ((qc l n ⟨k,i,m,t⟩)))))],.row .upl 67 (I.hid ((Yl l n ⟨k,i,m,t⟩)))]]⟩):Option CT)) l n k i m t
  |_,_=>none
theorem zdk:zo Tryz.prog 49 (X3 alg):=by
  intro args hp r h
  unfold X3 at h
  split at h
  · cases h;exact fun hn=>zmd _ _ _ _ _ _ hn
  · cases h
def Rf:Know Tryz.prog:=⟨49,X3,zdk⟩
def S9:Know Tryz.prog:=⟨49,fun I=>zu I (X3 I),zf zdk⟩
theorem play_small (l:List Upl) (n:Int) (e:Ent) (h:n≤200000):qc l n e≤1000000:=by have:=Rx l n e;omega
set_option maxHeartbeats 4000000 in
theorem zgs (l:List Upl) (n:Int) (b:Str) (s k i m:Int) (t:Str) (hneed:zy l n∧n≤200000∧t.length≤1000000∧b.length≤100000):Spc Tryz.prog 89 [.v (.one (.ptr 0 0)),.v (.agg [(.p (.int .i64 k)),(.p (.int .i64 i)),(.p (.int .i64 m)),(.p (.list .byte t))])] [.pack [.obj 48 [(.ptr 1 0),(.ptr 2 0)],.pack [.obj 90 [(.row 1),(.p (.int .i64 n))],.row .upl 67 l],.pack [.obj 104 [(.row 1),(.p (.int .i64 s))],.row .byte 5 b]]] (.ret (.v (.one (.p (.int .i64 ((wrtC l n b ⟨k,i,m,t⟩))))))) [.pack [.obj 48 [(.ptr 1 0),(.ptr 2 0)],.pack [.obj 90 [(.row 1),(.p (.int .i64 ((wrtN l n b ⟨k,i,m,t⟩))))],.row .upl 67 ((wrtL l n b ⟨k,i,m,t⟩))],.pack [.obj 104 [(.row 1),(.p (.int .i64 s))],.row .byte 5 ((wrtB l n b ⟨k,i,m,t⟩))]]]:=by
  obtain⟨hs,hn,ht,hb⟩:=hneed
  generalize hc:wrtC l n b ⟨k,i,m,t⟩=c
  generalize hl:wrtL l n b ⟨k,i,m,t⟩=l'
  generalize hN:wrtN l n b ⟨k,i,m,t⟩=n'
  generalize hB:wrtB l n b ⟨k,i,m,t⟩=b'
  refine spcG zi mixed Tryz.func89 (by kernel_rfl) { XP with keep:=some [0,1,3,4,5,6,7,8]} [zjo,zjn,zic,zib,ziQ,ziP,Rf,S9] (by kernel_rfl) ?_
  intro I X hI hX
  refine zh (let y0:=I.hid (α:=(List UInt8)) (Go.Jrn.encM (Go.Ab.Ent.mk k i m t));let y1:=I.hid (α:=(Prop)) (And (zy l n) (And (LE.le n (1000000:Int)) (LE.le (List.length t) 1000000)));let y2:=I.hid (α:=Int) (Ry l n (Go.Ab.Ent.mk k i m t));let y3:=I.hid (α:=Int) (Go.Jrn.encC (Go.Ab.Ent.mk k i m t));let y4:=I.hid (α:=(List UInt8)) (wrB b y0);.need (I.hid (α:=(Prop)) (zy l n)) (.need y1 (.br (I.bnot (I.ieq y2 0)) (.fin (.ret (.v (.one (.p (.int .i64 y2))))) [(.pack [(.obj 48 [(.ptr 1 0),(.ptr 2 0)]),(.pack [(.obj 90 [(.row 1),(.p (.int .i64 n))]),(.row .upl 67 l)]),(.pack [(.obj 104 [(.row 1),(.p (.int .i64 s))]),(.row .byte 5 b)])])]) (.need (I.hid (α:=(Prop)) True) (.br (I.bnot (I.ieq y3 0)) (.fin (.ret (.v (.one (.p (.int .i64 y3))))) [(.pack [(.obj 48 [(.ptr 1 0),(.ptr 2 0)]),(.pack [(.obj 90 [(.row 1),(.p (.int .i64 n))]),(.row .upl 67 l)]),(.pack [(.obj 104 [(.row 1),(.p (.int .i64 s))]),(.row .byte 5 b)])])]) (.need (I.hid (α:=(Prop)) (And (LE.le (List.length b) 100000) (LE.le (List.length y0) 100000000))) (.br (I.bnot (I.ieq (I.hid (α:=Int) (wrC b y0)) 0)) (.fin (.ret (.v (.one (.p (.int .i64 (I.hid (α:=Int) (wrC b y0))))))) [(.pack [(.obj 48 [(.ptr 1 0),(.ptr 2 0)]),(.pack [(.obj 90 [(.row 1),(.p (.int .i64 n))]),(.row .upl 67 l)]),(.pack [(.obj 104 [(.row 1),(.p (.int .i64 s))]),(.row .byte 5 y4)])])]) (.need y1 (.fin (.ret (.v (.one (.p (.int .i64 y2))))) [(.pack [(.obj 48 [(.ptr 1 0),(.ptr 2 0)]),(.pack [(.obj 90 [(.row 1),(.p (.int .i64 (I.hid (α:=Int) (qc l n (Go.Ab.Ent.mk k i m t)))))]),(.row .upl 67 (I.hid (α:=(List Go.Ab.Upl)) (Yl l n (Go.Ab.Ent.mk k i m t))))]),(.pack [(.obj 104 [(.row 1),(.p (.int .i64 s))]),(.row .byte 5 y4)])])]))))))))) (by kernel_rfl) ?_
  simp only [zl]
  subst hI
  simp only [nrmA,nrmB,nrlB,reduceCtorEq,HO.pack.injEq,HO.obj.injEq]
  have hel:(encM ⟨k,i,m,t⟩).length≤2000000:=by
    unfold encM
    split
    · rename_i h
      have:=zjU h
      simp only at this
      omega
    · simp
  generalize he:(⟨k,i,m,t⟩:Ent)=e at *
  have hem:encC e=0→encM e=encB e:=fun h=>by
    unfold encC at h
    unfold encM
    split at h
    · rename_i h2;rw [if_pos h2]
    · cases h
  have hw0: ∀ x:Str,wrC b x=0→wrB b x=b++x:=fun x h=>by
    unfold wrC at h
    unfold wrB
    split at h
    · rename_i h2;rw [if_pos h2]
    · cases h
  have hw1: ∀ x:Str,¬ wrC b x=0→wrB b x=b:=fun x h=>by
    unfold wrC at h
    unfold wrB
    split at h
    · exact absurd rfl h
    · rename_i h2;rw [if_neg h2]
  unfold wrtL at hl
  unfold wrtN at hN
  unfold wrtB at hB
  rw [hc] at hl hN hB
  unfold wrtC at hc
  (repeat' (first|refine And.intro ?_ ?_|intro _))<;>first|omega|exact True.intro|exact False.elim ‹False›|skip
  all_goals first
    |exact hs
    |(((repeat(first|rewrite [if_pos (by first|omega|assumption|(simp only [*,or_self,or_true,true_or,or_false,false_or,not_true_eq_false,not_false_eq_true,Bool.false_eq_true,Bool.true_eq_false,and_self,and_true,true_and];done)|(simp only [*];omega)|(simp [*];done)|(simp [*];omega))] at hc|rewrite [if_neg (by first|omega|assumption|(simp only [*,or_self,or_true,true_or,or_false,false_or,not_true_eq_false,not_false_eq_true,Bool.false_eq_true,Bool.true_eq_false,and_self,and_true,true_and];done)|(simp only [*];omega)|(simp [*];done)|(simp [*];omega))] at hc)));subst hc;((repeat(first|rewrite [if_pos (by first|omega|assumption|(simp only [*,or_self,or_true,true_or,or_false,false_or,not_true_eq_false,not_false_eq_true,Bool.false_eq_true,Bool.true_eq_false,and_self,and_true,true_and];done)|(simp only [*];omega)|(simp [*];done)|(simp [*];omega))] at hl|rewrite [if_neg (by first|omega|assumption|(simp only [*,or_self,or_true,true_or,or_false,false_or,not_true_eq_false,not_false_eq_true,Bool.false_eq_true,Bool.true_eq_false,and_self,and_true,true_and];done)|(simp only [*];omega)|(simp [*];done)|(simp [*];omega))] at hl)));subst hl;((repeat(first|rewrite [if_pos (by first|omega|assumption|(simp only [*,or_self,or_true,true_or,or_false,false_or,not_true_eq_false,not_false_eq_true,Bool.false_eq_true,Bool.true_eq_false,and_self,and_true,true_and];done)|(simp only [*];omega)|(simp [*];done)|(simp [*];omega))] at hN|rewrite [if_neg (by first|omega|assumption|(simp only [*,or_self,or_true,true_or,or_false,false_or,not_true_eq_false,not_false_eq_true,Bool.false_eq_true,Bool.true_eq_false,and_self,and_true,true_and];done)|(simp only [*];omega)|(simp [*];done)|(simp [*];omega))] at hN)));subst hN;((repeat(first|rewrite [if_pos (by first|omega|assumption|(simp only [*,or_self,or_true,true_or,or_false,false_or,not_true_eq_false,not_false_eq_true,Bool.false_eq_true,Bool.true_eq_false,and_self,and_true,true_and];done)|(simp only [*];omega)|(simp [*];done)|(simp [*];omega))] at hB|rewrite [if_neg (by first|omega|assumption|(simp only [*,or_self,or_true,true_or,or_false,false_or,not_true_eq_false,not_false_eq_true,Bool.false_eq_true,Bool.true_eq_false,and_self,and_true,true_and];done)|(simp only [*];omega)|(simp [*];done)|(simp [*];omega))] at hB)));subst hB;first|rfl|omega|exact hw1 _ (by assumption)|(rw [hw0 _ (by assumption),hem (by assumption)]))
    |trace_state
def tK (I:Alg) (args:List D) (hp:List HO):Option CT:=match args,hp with
  |[.v (.one (.ptr 0 0)),.v (.agg [(.p (.int .i64 k)),(.p (.int .i64 i)),(.p (.int .i64 m)),(.p (.list .byte t))])],[.pack [.obj 48 [(.ptr 1 0),(.ptr 2 0)],.pack [.obj 90 [(.row 1),(.p (.int .i64 n))],.row .upl 67 l],.pack [.obj 104 [(.row 1),(.p (.int .i64 s))],.row .byte 5 b]]]=>(fun(l:List Upl) (n:Int) (b:Str) (s k i m:Int) (t:Str)=>(some (.one ⟨I.hid (zy l n∧n≤200000∧t.length≤1000000∧b.length≤100000),(.ret (.v (.one (.p (.int .i64 (I.hid ((wrtC l n b ⟨k,i,m,t⟩)))))))),[.pack [.obj 48 [(.ptr 1 0),(.ptr 2 0)],.pack [.obj 90 [(.row 1),(.p (.int .i64 (I.hid ((wrtN l n b ⟨k,i,m,t⟩)))))],.row .upl 67 (I.hid ((wrtL l n b ⟨k,i,m,t⟩)))],.pack [.obj 104 [(.row 1),(.p (.int .i64 s))],.row .byte 5 (I.hid ((wrtB l n b ⟨k,i,m,t⟩)))]]]⟩):Option CT)) l n b s k i m t
  |_,_=>none
theorem Vx:zo Tryz.prog 89 (tK alg):=by
  intro args hp r h
  unfold tK at h
  split at h
  · cases h;exact fun hn=>zgs _ _ _ _ _ _ _ _ hn
  · cases h
def tJ:Know Tryz.prog:=⟨89,tK,Vx⟩
def tH:Know Tryz.prog:=⟨89,fun I=>zu I (tK I),zf Vx⟩
theorem ze3 (l:List Upl) (n:Int) (b:Str) (s size:Int) (t:Str) (hneed:zy l n∧n≤200000∧t.length≤1000000∧b.length≤100000):Spc Tryz.prog 81 [.v (.one (.ptr 0 0)),.v (.one (.p (.int .i64 size))),.v (.one (.p (.str t)))] [.pack [.obj 48 [(.ptr 1 0),(.ptr 2 0)],.pack [.obj 90 [(.row 1),(.p (.int .i64 n))],.row .upl 67 l],.pack [.obj 104 [(.row 1),(.p (.int .i64 s))],.row .byte 5 b]]] (.ret (.tup [(.one (.p (.int .i64 ((if wrtC l n b ⟨1,n+1,size,t⟩=0 then n+1 else 0))))),(.one (.p (.int .i64 ((wrtC l n b ⟨1,n+1,size,t⟩)))))])) [.pack [.obj 48 [(.ptr 1 0),(.ptr 2 0)],.pack [.obj 90 [(.row 1),(.p (.int .i64 ((wrtN l n b ⟨1,n+1,size,t⟩))))],.row .upl 67 ((wrtL l n b ⟨1,n+1,size,t⟩))],.pack [.obj 104 [(.row 1),(.p (.int .i64 s))],.row .byte 5 ((wrtB l n b ⟨1,n+1,size,t⟩))]]]:=by
  have hn0:=hneed.1.n0
  refine spcG zi mixed Tryz.func81 (by kernel_rfl) { XP with keep:=some [0,1,2,6,7,8,9]} [Yb,Ya,tJ,tH] (by kernel_rfl) ?_
  intro I X hI hX
  refine zh (let y0:=I.hid (α:=Int) (HAdd.hAdd n (1:Int));let y1:=I.hid (α:=(List Go.Ab.Upl)) (wrtL l n b (Go.Ab.Ent.mk (1:Int) y0 size t));let y2:=I.hid (α:=(List UInt8)) (wrtB l n b (Go.Ab.Ent.mk (1:Int) y0 size t));let y3:=I.hid (α:=Int) (wrtC l n b (Go.Ab.Ent.mk (1:Int) y0 size t));let y4:=I.hid (α:=Int) (wrtN l n b (Go.Ab.Ent.mk (1:Int) y0 size t));.need (I.hid (α:=(Prop)) (And (LE.le (0:Int) n) (LE.le n (1000000:Int)))) (.need (I.hid (α:=(Prop)) (And (zy l n) (And (LE.le n (200000:Int)) (And (LE.le (List.length t) 1000000) (LE.le (List.length b) 100000))))) (.br (I.bnot (I.ieq y3 0)) (.fin (.ret (.tup [(.one (.p (.int .i64 0))),(.one (.p (.int .i64 y3)))])) [(.pack [(.obj 48 [(.ptr 1 0),(.ptr 2 0)]),(.pack [(.obj 90 [(.row 1),(.p (.int .i64 y4))]),(.row .upl 67 y1)]),(.pack [(.obj 104 [(.row 1),(.p (.int .i64 s))]),(.row .byte 5 y2)])])]) (.fin (.ret (.tup [(.one (.p (.int .i64 y0))),(.one (.p (.int .i64 0)))])) [(.pack [(.obj 48 [(.ptr 1 0),(.ptr 2 0)]),(.pack [(.obj 90 [(.row 1),(.p (.int .i64 y4))]),(.row .upl 67 y1)]),(.pack [(.obj 104 [(.row 1),(.p (.int .i64 s))]),(.row .byte 5 y2)])])])))) (by kernel_rfl) ?_
  simp only [zl]
  subst hI
  simp only [nrmA,nrmB,nrlB,reduceCtorEq,HO.pack.injEq,HO.obj.injEq]
  exact⟨⟨hn0,by omega⟩,hneed,fun h=>(if_neg h).symm,fun h=>⟨(if_pos h).symm,h.symm⟩⟩
def vH (I:Alg) (args:List D) (hp:List HO):Option CT:=match args,hp with
  |[.v (.one (.ptr 0 0)),.v (.one (.p (.int .i64 size))),.v (.one (.p (.str t)))],[.pack [.obj 48 [(.ptr 1 0),(.ptr 2 0)],.pack [.obj 90 [(.row 1),(.p (.int .i64 n))],.row .upl 67 l],.pack [.obj 104 [(.row 1),(.p (.int .i64 s))],.row .byte 5 b]]]=>(fun(l:List Upl) (n:Int) (b:Str) (s size:Int) (t:Str)=>(some (.one ⟨I.hid (zy l n∧n≤200000∧t.length≤1000000∧b.length≤100000),(.ret (.tup [(.one (.p (.int .i64 (I.hid ((if wrtC l n b ⟨1,n+1,size,t⟩=0 then n+1 else 0)))))),(.one (.p (.int .i64 (I.hid ((wrtC l n b ⟨1,n+1,size,t⟩))))))])),[.pack [.obj 48 [(.ptr 1 0),(.ptr 2 0)],.pack [.obj 90 [(.row 1),(.p (.int .i64 (I.hid ((wrtN l n b ⟨1,n+1,size,t⟩)))))],.row .upl 67 (I.hid ((wrtL l n b ⟨1,n+1,size,t⟩)))],.pack [.obj 104 [(.row 1),(.p (.int .i64 s))],.row .byte 5 (I.hid ((wrtB l n b ⟨1,n+1,size,t⟩)))]]]⟩):Option CT)) l n b s size t
  |_,_=>none
theorem Xm:zo Tryz.prog 81 (vH alg):=by
  intro args hp r h
  unfold vH at h
  split at h
  · cases h;exact fun hn=>ze3 _ _ _ _ _ _ hn
  · cases h
def zav:Know Tryz.prog:=⟨81,vH,Xm⟩
def zau:Know Tryz.prog:=⟨81,fun I=>zu I (vH I),zf Xm⟩
def apG (l:List Upl) (id off:Int):Bool:=getB l id&&(decide ((getU l id).sent=0)&& !decide (off=(getU l id).bytes.length))
def apE (id:Int) (x:Str):Ent:=⟨2,id,0,x⟩
theorem ze4 (l:List Upl) (n:Int) (b:Str) (s id off:Int) (x:Str) (hneed:zy l n∧n≤200000∧x.length≤1000000∧b.length≤100000):Spc Tryz.prog 87 [.v (.one (.ptr 0 0)),.v (.one (.p (.int .i64 id))),.v (.one (.p (.int .i64 off))),.v (.one (.p (.list .byte x)))] [.pack [.obj 48 [(.ptr 1 0),(.ptr 2 0)],.pack [.obj 90 [(.row 1),(.p (.int .i64 n))],.row .upl 67 l],.pack [.obj 104 [(.row 1),(.p (.int .i64 s))],.row .byte 5 b]]] (.ret (.v (.one (.p (.int .i64 ((if apG l id off then 17 else wrtC l n b ⟨2,id,0,x⟩))))))) [.pack [.obj 48 [(.ptr 1 0),(.ptr 2 0)],.pack [.obj 90 [(.row 1),(.p (.int .i64 ((if apG l id off then n else wrtN l n b ⟨2,id,0,x⟩))))],.row .upl 67 ((if apG l id off then l else wrtL l n b ⟨2,id,0,x⟩))],.pack [.obj 104 [(.row 1),(.p (.int .i64 s))],.row .byte 5 ((if apG l id off then b else wrtB l n b ⟨2,id,0,x⟩))]]]:=by
  generalize hg:apG l id off=g
  refine spcG zi mixed Tryz.func87 (by kernel_rfl) { XP with keep:=some [0,1,2,3,8,9,10]} [qK,qJ,Y2,Y1,tJ,tH] (by kernel_rfl) ?_
  intro I X hI hX
  refine zh (let y0:=I.hid (α:=(Prop)) (And (zy l n) (And (LE.le n (200000:Int)) (And (LE.le (List.length x) 1000000) (LE.le (List.length b) 100000))));let y1:=I.hid (α:=(List Go.Ab.Upl)) (wrtL l n b (Go.Ab.Ent.mk (2:Int) id (0:Int) x));let y2:=I.hid (α:=(List UInt8)) (wrtB l n b (Go.Ab.Ent.mk (2:Int) id (0:Int) x));let y3:=I.hid (α:=Int) (wrtC l n b (Go.Ab.Ent.mk (2:Int) id (0:Int) x));let y4:=I.hid (α:=Int) (wrtN l n b (Go.Ab.Ent.mk (2:Int) id (0:Int) x));.need (I.hid (α:=(Prop)) (zy l n)) (.br (I.hid (α:=Bool) (getB l id)) (.br (I.ieq (I.hid (α:=Int) (Go.Ab.Upl.sent (getU l id))) 0) (.br (I.bnot (I.ieq off (I.len (α:=UInt8) (I.hid (α:=(List UInt8)) (Go.Ab.Upl.bytes (getU l id)))))) (.fin (.ret (.v (.one (.p (.int .i64 17))))) [(.pack [(.obj 48 [(.ptr 1 0),(.ptr 2 0)]),(.pack [(.obj 90 [(.row 1),(.p (.int .i64 n))]),(.row .upl 67 l)]),(.pack [(.obj 104 [(.row 1),(.p (.int .i64 s))]),(.row .byte 5 b)])])]) (.need y0 (.fin (.ret (.v (.one (.p (.int .i64 y3))))) [(.pack [(.obj 48 [(.ptr 1 0),(.ptr 2 0)]),(.pack [(.obj 90 [(.row 1),(.p (.int .i64 y4))]),(.row .upl 67 y1)]),(.pack [(.obj 104 [(.row 1),(.p (.int .i64 s))]),(.row .byte 5 y2)])])]))) (.need y0 (.fin (.ret (.v (.one (.p (.int .i64 y3))))) [(.pack [(.obj 48 [(.ptr 1 0),(.ptr 2 0)]),(.pack [(.obj 90 [(.row 1),(.p (.int .i64 y4))]),(.row .upl 67 y1)]),(.pack [(.obj 104 [(.row 1),(.p (.int .i64 s))]),(.row .byte 5 y2)])])]))) (.need y0 (.fin (.ret (.v (.one (.p (.int .i64 y3))))) [(.pack [(.obj 48 [(.ptr 1 0),(.ptr 2 0)]),(.pack [(.obj 90 [(.row 1),(.p (.int .i64 y4))]),(.row .upl 67 y1)]),(.pack [(.obj 104 [(.row 1),(.p (.int .i64 s))]),(.row .byte 5 y2)])])])))) (by kernel_rfl) ?_
  simp only [zl]
  subst hI
  simp only [nrmA,nrmB,nrlB,reduceCtorEq,HO.pack.injEq,HO.obj.injEq]
  (repeat' (first|refine And.intro ?_ ?_|intro _))<;>first|omega|exact True.intro|exact False.elim ‹False›|skip
  all_goals first
    |exact hneed.1
    |exact hneed
    |exact hneed.2.1
    |exact hneed.2.2.1
    |exact hneed.2.2.2
    |(have h:g=true:=(by rw [← hg];unfold apG;simp [*]);subst h;rfl)
    |(have h:g=false:=(by rw [← hg];unfold apG;simp [*]);subst h;rfl)
    |trace_state
def vI (I:Alg) (args:List D) (hp:List HO):Option CT:=match args,hp with
  |[.v (.one (.ptr 0 0)),.v (.one (.p (.int .i64 id))),.v (.one (.p (.int .i64 off))),.v (.one (.p (.list .byte x)))],[.pack [.obj 48 [(.ptr 1 0),(.ptr 2 0)],.pack [.obj 90 [(.row 1),(.p (.int .i64 n))],.row .upl 67 l],.pack [.obj 104 [(.row 1),(.p (.int .i64 s))],.row .byte 5 b]]]=>(fun(l:List Upl) (n:Int) (b:Str) (s id off:Int) (x:Str)=>(some (.one ⟨I.hid (zy l n∧n≤200000∧x.length≤1000000∧b.length≤100000),(.ret (.v (.one (.p (.int .i64 (I.hid ((if apG l id off then 17 else wrtC l n b ⟨2,id,0,x⟩)))))))),[.pack [.obj 48 [(.ptr 1 0),(.ptr 2 0)],.pack [.obj 90 [(.row 1),(.p (.int .i64 (I.hid ((if apG l id off then n else wrtN l n b ⟨2,id,0,x⟩)))))],.row .upl 67 (I.hid ((if apG l id off then l else wrtL l n b ⟨2,id,0,x⟩)))],.pack [.obj 104 [(.row 1),(.p (.int .i64 s))],.row .byte 5 (I.hid ((if apG l id off then b else wrtB l n b ⟨2,id,0,x⟩)))]]]⟩):Option CT)) l n b s id off x
  |_,_=>none
theorem Xn:zo Tryz.prog 87 (vI alg):=by
  intro args hp r h
  unfold vI at h
  split at h
  · cases h;exact fun hn=>ze4 _ _ _ _ _ _ _ hn
  · cases h
def yM:Know Tryz.prog:=⟨87,vI,Xn⟩
def yL:Know Tryz.prog:=⟨87,fun I=>zu I (vI I),zf Xn⟩
theorem zb4 (l:List Upl) (n:Int) (b:Str) (s id size:Int) (hneed:zy l n∧n≤200000∧b.length≤100000):Spc Tryz.prog 88 [.v (.one (.ptr 0 0)),.v (.one (.p (.int .i64 id))),.v (.one (.p (.int .i64 size)))] [.pack [.obj 48 [(.ptr 1 0),(.ptr 2 0)],.pack [.obj 90 [(.row 1),(.p (.int .i64 n))],.row .upl 67 l],.pack [.obj 104 [(.row 1),(.p (.int .i64 s))],.row .byte 5 b]]] (.ret (.v (.one (.p (.int .i64 ((wrtC l n b ⟨3,id,size,[]⟩))))))) [.pack [.obj 48 [(.ptr 1 0),(.ptr 2 0)],.pack [.obj 90 [(.row 1),(.p (.int .i64 ((wrtN l n b ⟨3,id,size,[]⟩))))],.row .upl 67 ((wrtL l n b ⟨3,id,size,[]⟩))],.pack [.obj 104 [(.row 1),(.p (.int .i64 s))],.row .byte 5 ((wrtB l n b ⟨3,id,size,[]⟩))]]]:=by
  refine spcG zi mixed Tryz.func88 (by kernel_rfl) { XP with keep:=some [0,1,2,6]} [tJ,tH] (by kernel_rfl) ?_
  intro I X hI hX
  refine zh (.need (I.hid (α:=(Prop)) (And (zy l n) (And (LE.le n (200000:Int)) (And (LE.le (List.length ([]:List UInt8)) 1000000) (LE.le (List.length b) 100000))))) (.fin (.ret (.v (.one (.p (.int .i64 (I.hid (α:=Int) (wrtC l n b (Go.Ab.Ent.mk (3:Int) id size ([]:List UInt8))))))))) [(.pack [(.obj 48 [(.ptr 1 0),(.ptr 2 0)]),(.pack [(.obj 90 [(.row 1),(.p (.int .i64 (I.hid (α:=Int) (wrtN l n b (Go.Ab.Ent.mk (3:Int) id size ([]:List UInt8))))))]),(.row .upl 67 (I.hid (α:=(List Go.Ab.Upl)) (wrtL l n b (Go.Ab.Ent.mk (3:Int) id size ([]:List UInt8)))))]),(.pack [(.obj 104 [(.row 1),(.p (.int .i64 s))]),(.row .byte 5 (I.hid (α:=(List UInt8)) (wrtB l n b (Go.Ab.Ent.mk (3:Int) id size ([]:List UInt8)))))])])])) (by kernel_rfl) ?_
  simp only [zl]
  subst hI
  simp only [nrmA,nrmB,nrlB,reduceCtorEq,HO.pack.injEq,HO.obj.injEq]
  exact⟨hneed.1,hneed.2.1,by decide,hneed.2.2⟩
def wS (I:Alg) (args:List D) (hp:List HO):Option CT:=match args,hp with
  |[.v (.one (.ptr 0 0)),.v (.one (.p (.int .i64 id))),.v (.one (.p (.int .i64 size)))],[.pack [.obj 48 [(.ptr 1 0),(.ptr 2 0)],.pack [.obj 90 [(.row 1),(.p (.int .i64 n))],.row .upl 67 l],.pack [.obj 104 [(.row 1),(.p (.int .i64 s))],.row .byte 5 b]]]=>(fun(l:List Upl) (n:Int) (b:Str) (s id size:Int)=>(some (.one ⟨I.hid (zy l n∧n≤200000∧b.length≤100000),(.ret (.v (.one (.p (.int .i64 (I.hid ((wrtC l n b ⟨3,id,size,[]⟩)))))))),[.pack [.obj 48 [(.ptr 1 0),(.ptr 2 0)],.pack [.obj 90 [(.row 1),(.p (.int .i64 (I.hid ((wrtN l n b ⟨3,id,size,[]⟩)))))],.row .upl 67 (I.hid ((wrtL l n b ⟨3,id,size,[]⟩)))],.pack [.obj 104 [(.row 1),(.p (.int .i64 s))],.row .byte 5 (I.hid ((wrtB l n b ⟨3,id,size,[]⟩)))]]]⟩):Option CT)) l n b s id size
  |_,_=>none
theorem ZX:zo Tryz.prog 88 (wS alg):=by
  intro args hp r h
  unfold wS at h
  split at h
  · cases h;exact fun hn=>zb4 _ _ _ _ _ _ hn
  · cases h
def yE:Know Tryz.prog:=⟨88,wS,ZX⟩
def yD:Know Tryz.prog:=⟨88,fun I=>zu I (wS I),zf ZX⟩
theorem zjb (l:List Upl) (n:Int) (b:Str) (s id:Int) (hneed:zy l n∧n≤200000∧b.length≤100000):Spc Tryz.prog 58 [.v (.one (.ptr 0 0)),.v (.one (.p (.int .i64 id)))] [.pack [.obj 48 [(.ptr 1 0),(.ptr 2 0)],.pack [.obj 90 [(.row 1),(.p (.int .i64 n))],.row .upl 67 l],.pack [.obj 104 [(.row 1),(.p (.int .i64 s))],.row .byte 5 b]]] (.ret (.v (.one (.p (.int .i64 ((wrtC l n b ⟨4,id,0,[]⟩))))))) [.pack [.obj 48 [(.ptr 1 0),(.ptr 2 0)],.pack [.obj 90 [(.row 1),(.p (.int .i64 ((wrtN l n b ⟨4,id,0,[]⟩))))],.row .upl 67 ((wrtL l n b ⟨4,id,0,[]⟩))],.pack [.obj 104 [(.row 1),(.p (.int .i64 s))],.row .byte 5 ((wrtB l n b ⟨4,id,0,[]⟩))]]]:=by
  refine spcG zi mixed Tryz.func58 (by kernel_rfl) { XP with keep:=some [0,1,4]} [tJ,tH] (by kernel_rfl) ?_
  intro I X hI hX
  refine zh (.need (I.hid (α:=(Prop)) (And (zy l n) (And (LE.le n (200000:Int)) (And (LE.le (List.length ([]:List UInt8)) 1000000) (LE.le (List.length b) 100000))))) (.fin (.ret (.v (.one (.p (.int .i64 (I.hid (α:=Int) (wrtC l n b (Go.Ab.Ent.mk (4:Int) id (0:Int) ([]:List UInt8))))))))) [(.pack [(.obj 48 [(.ptr 1 0),(.ptr 2 0)]),(.pack [(.obj 90 [(.row 1),(.p (.int .i64 (I.hid (α:=Int) (wrtN l n b (Go.Ab.Ent.mk (4:Int) id (0:Int) ([]:List UInt8))))))]),(.row .upl 67 (I.hid (α:=(List Go.Ab.Upl)) (wrtL l n b (Go.Ab.Ent.mk (4:Int) id (0:Int) ([]:List UInt8)))))]),(.pack [(.obj 104 [(.row 1),(.p (.int .i64 s))]),(.row .byte 5 (I.hid (α:=(List UInt8)) (wrtB l n b (Go.Ab.Ent.mk (4:Int) id (0:Int) ([]:List UInt8)))))])])])) (by kernel_rfl) ?_
  simp only [zl]
  subst hI
  simp only [nrmA,nrmB,nrlB,reduceCtorEq,HO.pack.injEq,HO.obj.injEq]
  exact⟨hneed.1,hneed.2.1,by decide,hneed.2.2⟩
def qF (I:Alg) (args:List D) (hp:List HO):Option CT:=match args,hp with
  |[.v (.one (.ptr 0 0)),.v (.one (.p (.int .i64 id)))],[.pack [.obj 48 [(.ptr 1 0),(.ptr 2 0)],.pack [.obj 90 [(.row 1),(.p (.int .i64 n))],.row .upl 67 l],.pack [.obj 104 [(.row 1),(.p (.int .i64 s))],.row .byte 5 b]]]=>(fun(l:List Upl) (n:Int) (b:Str) (s id:Int)=>(some (.one ⟨I.hid (zy l n∧n≤200000∧b.length≤100000),(.ret (.v (.one (.p (.int .i64 (I.hid ((wrtC l n b ⟨4,id,0,[]⟩)))))))),[.pack [.obj 48 [(.ptr 1 0),(.ptr 2 0)],.pack [.obj 90 [(.row 1),(.p (.int .i64 (I.hid ((wrtN l n b ⟨4,id,0,[]⟩)))))],.row .upl 67 (I.hid ((wrtL l n b ⟨4,id,0,[]⟩)))],.pack [.obj 104 [(.row 1),(.p (.int .i64 s))],.row .byte 5 (I.hid ((wrtB l n b ⟨4,id,0,[]⟩)))]]]⟩):Option CT)) l n b s id
  |_,_=>none
theorem U6:zo Tryz.prog 58 (qF alg):=by
  intro args hp r h
  unfold qF at h
  split at h
  · cases h;exact fun hn=>zjb _ _ _ _ _ hn
  · cases h
def uJ:Know Tryz.prog:=⟨58,qF,U6⟩
def uI:Know Tryz.prog:=⟨58,fun I=>zu I (qF I),zf U6⟩
theorem zi9 (l:List Upl) (n:Int) (b:Str) (s:Int):Spc Tryz.prog 59 [.v (.one (.ptr 0 0))] [.pack [.obj 48 [(.ptr 1 0),(.ptr 2 0)],.pack [.obj 90 [(.row 1),(.p (.int .i64 n))],.row .upl 67 l],.pack [.obj 104 [(.row 1),(.p (.int .i64 s))],.row .byte 5 b]]] (.ret (.tup [])) [.pack [.obj 48 [(.ptr 1 0),(.ptr 2 0)],.pack [.obj 90 [(.row 1),(.p (.int .i64 n))],.row .upl 67 l],.pack [.obj 104 [(.row 1),(.p (.int .i64 ((b.length:Int))))],.row .byte 5 b]]]:=by
  refine spcG zi mixed Tryz.func59 (by kernel_rfl) { XP with keep:=some [0]} [zgo,zgn] (by kernel_rfl) ?_
  intro I X hI hX
  refine zh (.need (I.hid (α:=(Prop)) True) (.fin (.ret (.tup [])) [(.pack [(.obj 48 [(.ptr 1 0),(.ptr 2 0)]),(.pack [(.obj 90 [(.row 1),(.p (.int .i64 n))]),(.row .upl 67 l)]),(.pack [(.obj 104 [(.row 1),(.p (.int .i64 (I.hid (α:=Int) (Nat.cast (List.length b)))))]),(.row .byte 5 b)])])])) (by kernel_rfl) ?_
  simp only [zl]
  subst hI
  simp only [nrmA,nrmB,nrlB,reduceCtorEq,HO.pack.injEq,HO.obj.injEq]
  try trivial
def qC (I:Alg) (args:List D) (hp:List HO):Option CT:=match args,hp with
  |[.v (.one (.ptr 0 0))],[.pack [.obj 48 [(.ptr 1 0),(.ptr 2 0)],.pack [.obj 90 [(.row 1),(.p (.int .i64 n))],.row .upl 67 l],.pack [.obj 104 [(.row 1),(.p (.int .i64 s))],.row .byte 5 b]]]=>(fun(l:List Upl) (n:Int) (b:Str) (s:Int)=>(some (.one ⟨I.hid (True),(.ret (.tup [])),[.pack [.obj 48 [(.ptr 1 0),(.ptr 2 0)],.pack [.obj 90 [(.row 1),(.p (.int .i64 n))],.row .upl 67 l],.pack [.obj 104 [(.row 1),(.p (.int .i64 (I.hid ((b.length:Int)))))],.row .byte 5 b]]]⟩):Option CT)) l n b s
  |_,_=>none
theorem U4:zo Tryz.prog 59 (qC alg):=by
  intro args hp r h
  unfold qC at h
  split at h
  · cases h;exact fun hn=>zi9 _ _ _ _
  · cases h
def zY:Know Tryz.prog:=⟨59,qC,U4⟩
def zX:Know Tryz.prog:=⟨59,fun I=>zu I (qC I),zf U4⟩
theorem zkR (l:List Upl) (n:Int) (b:Str) (s:Int) (hneed:b.length≤100000):Spc Tryz.prog 12 [.v (.one (.ptr 0 0))] [.pack [.obj 48 [(.ptr 1 0),(.ptr 2 0)],.pack [.obj 90 [(.row 1),(.p (.int .i64 n))],.row .upl 67 l],.pack [.obj 104 [(.row 1),(.p (.int .i64 s))],.row .byte 5 b]]] (.ret (.tup [(.one (.row 1)),(.one (.p (.int .i64 s)))])) [.pack [.obj 48 [(.ptr 1 0),(.ptr 2 0)],.pack [.obj 90 [(.row 1),(.p (.int .i64 n))],.row .upl 67 l],.pack [.obj 104 [(.row 1),(.p (.int .i64 s))],.row .byte 5 b]],.row .byte 5 b]:=by
  refine spcG zi mixed Tryz.func12 (by kernel_rfl) { XP with keep:=some [0,2,3]} [zkP,zkO,QO,QN] (by kernel_rfl) ?_
  intro I X hI hX
  refine zh (let y0:=I.hid (α:=(Prop)) (LE.le (List.length b) 100000000);.both (.both (.need y0 (.need (I.hid (α:=(Prop)) True) (.fin (.ret (.tup [(.one (.row 1)),(.one (.p (.int .i64 s)))])) [(.pack [(.obj 48 [(.ptr 1 0),(.ptr 2 0)]),(.pack [(.obj 90 [(.row 1),(.p (.int .i64 n))]),(.row .upl 67 l)]),(.pack [(.obj 104 [(.row 1),(.p (.int .i64 s))]),(.row .byte 5 b)])]),(.row .byte 5 b)]))) (.need y0 (.need (I.hid (α:=(Prop)) True) (.fin (.ret (.tup [(.one (.row 1)),(.one (.p (.int .i64 s)))])) [(.pack [(.obj 48 [(.ptr 1 0),(.ptr 2 0)]),(.pack [(.obj 90 [(.row 1),(.p (.int .i64 n))]),(.row .upl 67 l)]),(.pack [(.obj 104 [(.row 1),(.p (.int .i64 s))]),(.row .byte 5 b)])]),(.row .byte 5 b)])))) (.need y0 (.need (I.hid (α:=(Prop)) True) (.fin (.ret (.tup [(.one (.row 1)),(.one (.p (.int .i64 s)))])) [(.pack [(.obj 48 [(.ptr 1 0),(.ptr 2 0)]),(.pack [(.obj 90 [(.row 1),(.p (.int .i64 n))]),(.row .upl 67 l)]),(.pack [(.obj 104 [(.row 1),(.p (.int .i64 s))]),(.row .byte 5 b)])]),(.row .byte 5 b)])))) (by kernel_rfl) ?_
  simp only [zl]
  subst hI
  simp only [nrmA,nrmB,nrlB,reduceCtorEq,HO.pack.injEq,HO.obj.injEq]
  (repeat' (first|refine And.intro ?_ ?_|intro _))<;>first|omega|exact True.intro|exact False.elim ‹False›|skip
def ZW (I:Alg) (args:List D) (hp:List HO):Option CT:=match args,hp with
  |[.v (.one (.ptr 0 0))],[.pack [.obj 48 [(.ptr 1 0),(.ptr 2 0)],.pack [.obj 90 [(.row 1),(.p (.int .i64 n))],.row .upl 67 l],.pack [.obj 104 [(.row 1),(.p (.int .i64 s))],.row .byte 5 b]]]=>(fun(l:List Upl) (n:Int) (b:Str) (s:Int)=>(some (.one ⟨I.hid (b.length≤100000),(.ret (.tup [(.one (.row 1)),(.one (.p (.int .i64 s)))])),[.pack [.obj 48 [(.ptr 1 0),(.ptr 2 0)],.pack [.obj 90 [(.row 1),(.p (.int .i64 n))],.row .upl 67 l],.pack [.obj 104 [(.row 1),(.p (.int .i64 s))],.row .byte 5 b]],.row .byte 5 b]⟩):Option CT)) l n b s
  |_,_=>none
theorem zat:zo Tryz.prog 12 (ZW alg):=by
  intro args hp r h
  unfold ZW at h
  split at h
  · cases h;exact fun hn=>zkR _ _ _ _ hn
  · cases h
def ZV:Know Tryz.prog:=⟨12,ZW,zat⟩
def ZU:Know Tryz.prog:=⟨12,fun I=>zu I (ZW I),zf zat⟩
set_option maxHeartbeats 4000000 in
theorem zgt (l:List Upl) (n:Int) (b:Str) (s keep:Int) (hneed:b.length≤100000∧0≤s∧s≤b.length):Spc Tryz.prog 22 [.v (.one (.ptr 0 0)),.v (.one (.p (.int .i64 keep)))] [.pack [.obj 48 [(.ptr 1 0),(.ptr 2 0)],.pack [.obj 90 [(.row 1),(.p (.int .i64 n))],.row .upl 67 l],.pack [.obj 104 [(.row 1),(.p (.int .i64 s))],.row .byte 5 b]]] (.ret (.tup [])) [.pack [.obj 48 [(.ptr 1 0),(.ptr 2 0)],.pack [.obj 90 [(.row 1),(.p (.int .i64 ((crsP b s keep).2)))],.row .upl 67 ((crsP b s keep).1)],.pack [.obj 104 [(.row 1),(.p (.int .i64 (((crsB b s keep).length:Int))))],.row .byte 5 ((crsB b s keep))]]]:=by
  obtain⟨hb,hs0,hs1⟩:=hneed
  have h1:=zjW b s keep
  have h2:=zcK b s keep
  have h3:=zfJ (s:=s) (k:=keep) hb
  have h4:=zc7 (crB b s keep)
  unfold crsP
  generalize hP:replay ([],0) (crsE b s keep)=pq
  generalize hB:((crsB b s keep).length:Int)=bl at *
  refine spcG zi mixed Tryz.func22 (by kernel_rfl) { XP with fz:=[47],keep:=some [0,1,4,5,7,33,34,35]} [zcb,zca,zbB,zbA,QO,QN,zeK,zeJ,zin,zim,Rf,S9] (by kernel_rfl) ?_
  intro I X hI hX
  refine zh (let y0:=I.hid (α:=(List UInt8)) (crB b s keep);let y1:=I.hid (α:=Int) (Nat.cast (List.length (crB b s keep)));let y2:=I.hid (α:=(List Go.Ab.Ent)) (Prod.fst (Go.Jrn.dec y0));.need (I.hid (α:=(Prop)) (And (LE.le (List.length b) 100000) (And (LE.le (0:Int) s) (LE.le s (Nat.cast (List.length b)))))) (.need (I.hid (α:=(Prop)) (LE.le (List.length y0) 100000000)) (.need (I.hid (α:=(Prop)) (LE.le (List.length y0) 50000000)) (.need (I.hid (α:=(Prop)) (And (LE.le (List.length y0) 100000) (And (LE.le (0:Int) y1) (LE.le y1 (Nat.cast (List.length y0)))))) (.need (I.hid (α:=(Prop)) True) (.code 0 [1,1,1,1,1,0] ⟨[(35,(.v (.one (.p (.int .i64 0))))),(34,(.v (.one (.p (.int .i64 (I.len (α:=Go.Ab.Ent) y2)))))),(33,(.v (.one (.row 4)))),(5,(.v (.one (.p (.int .i64 (I.hid (α:=Int) (YT y0))))))),(4,(.v (.one (.row 4)))),(0,(.v (.one (.ptr 0 0)))),(1,(.v (.one (.p (.int .i64 keep)))))],[(.obj 48 [(.ptr 5 0),(.ptr 2 0)]),(.pack [(.obj 90 [(.row 1),(.p (.int .i64 n))]),(.row .upl 67 l)]),(.pack [(.obj 104 [(.row 1),(.p (.int .i64 (I.hid (α:=Int) (cuS y0 y1 (I.hid (α:=Int) (YT y0))))))]),(.row .byte 5 (I.hid (α:=(List UInt8)) (cuB y0 (I.hid (α:=Int) (YT y0)))))]),.gone,(.row .ent 101 y2),(.pack [(.obj 90 [(.row 1),(.p (.int .i64 0))]),(.row .upl 67 (I.hid (α:=(List Go.Ab.Upl)) ([]:List Go.Ab.Upl)))])],46,none⟩)))))) (by kernel_rfl) ?_
  simp only [zl]
  have hh: ∀ {α:Type} (x:α),I.hid x=x:=by subst hI;intros;rfl
  simp only [hh]
  unfold crsB at *
  unfold crsE at *
  rw [h1]
  generalize hb1:crB b s keep=b1 at *
  generalize hu:YT b1=u at *
  generalize hb2:cuB b1 u=b2 at *
  generalize hes:(Jrn.dec b1).1=es at *
  refine⟨⟨hb,hs0,hs1⟩,by omega,by omega,⟨by omega,by omega,by omega⟩,trivial,?_⟩
  refine zA hI zi mixed [zcb,zca,zbB,zbA,QO,QN,zeK,zeJ,zin,zim,Rf,S9] hX [0,33,34,35] (fun(k:Nat)=>k≤es.length) (fun(k:Nat)=>⟨[(0,.v (.one (.ptr 0 0))),(33,.v (.one (.row 1))),(34,.v (.one (.p (.int .i64 ((I.len (α:=Ent) es)))))),(35,.v (.one (.p (.int .i64 k))))],[.pack [.obj 48 [(.ptr 1 0),(.ptr 2 0)],.pack [.obj 90 [(.row 1),(.p (.int .i64 ((replay ([],0) (es.take k)).2)))],.row .upl 67 ((replay ([],0) (es.take k)).1)],.pack [.obj 104 [(.row 1),(.p (.int .i64 bl))],.row .byte 5 b2]],.row .ent 101 es],46,none⟩) (fun(k:Nat)=>es.length - k) 0 (by kernel_rfl) (by kernel_rfl) ?_ ?_
  · exact Nat.zero_le _
  rintro k hk A hA
  have ho:=zaE (es.take k) ([],0) tV
  have hn:=zdH (es.take k) ([],0)
  generalize hp:replay ([],0) (es.take k)=p at *
  refine zh (let y0:=I.get (α:=Go.Ab.Ent) es (Go.Ab.Ent.mk (0:Int) (0:Int) (0:Int) ([]:List UInt8)) (Nat.cast k);let y1:=I.inb (Nat.cast k) (I.len (α:=Go.Ab.Ent) es);.br (I.ilt (Nat.cast k) (I.len (α:=Go.Ab.Ent) es)) (.need y1 (.need y1 (.need (I.hid (α:=(Prop)) (And (zy (Prod.fst p) (Prod.snd p)) (And (LE.le (Prod.snd p) (1000000:Int)) (LE.le (List.length (Go.Ab.Ent.text y0)) 1000000)))) (.need (I.inr Go.IntKind.i64 (I.add (Nat.cast k) 1)) (.need (A ⟨[(0,(.v (.one (.ptr 0 0)))),(33,(.v (.one (.row 1)))),(34,(.v (.one (.p (.int .i64 (I.len (α:=Go.Ab.Ent) es)))))),(35,(.v (.one (.p (.int .i64 (I.add (Nat.cast k) 1))))))],[(.pack [(.obj 48 [(.ptr 1 0),(.ptr 2 0)]),(.pack [(.obj 90 [(.row 1),(.p (.int .i64 (I.hid (α:=Int) (qc (Prod.fst p) (Prod.snd p) (Go.Ab.Ent.mk (Go.Ab.Ent.kind y0) (Go.Ab.Ent.id y0) (Go.Ab.Ent.n y0) (Go.Ab.Ent.text y0))))))]),(.row .upl 67 (I.hid (α:=(List Go.Ab.Upl)) (Yl (Prod.fst p) (Prod.snd p) (Go.Ab.Ent.mk (Go.Ab.Ent.kind y0) (Go.Ab.Ent.id y0) (Go.Ab.Ent.n y0) (Go.Ab.Ent.text y0)))))]),(.pack [(.obj 104 [(.row 1),(.p (.int .i64 bl))]),(.row .byte 5 b2)])]),(.row .ent 101 es)],46,none⟩) .qed))))) (.fin (.ret (.tup [])) [(.pack [(.obj 48 [(.ptr 1 0),(.ptr 2 0)]),(.pack [(.obj 90 [(.row 1),(.p (.int .i64 (Prod.snd p)))]),(.row .upl 67 (Prod.fst p))]),(.pack [(.obj 104 [(.row 1),(.p (.int .i64 bl))]),(.row .byte 5 b2)])])])) (by kernel_rfl) ?_
  simp only [zl]
  subst hI
  simp only [nrmA,nrmB,nrlB,reduceCtorEq]
  have hnk:p.2≤200000:=by
    have:(es.take k).length≤es.length:=by rw [List.length_take];omega
    have h30:=h3.1
    simp only at hn
    omega
  refine⟨fun c=>⟨⟨by omega,by omega⟩,⟨by omega,by omega⟩,⟨ho,by omega,?_⟩,⟨by omega,by omega⟩,?_⟩,fun c=> ?_⟩
  · rw [show es.getD k ⟨0,0,0,[]⟩=es[k]'(by omega) by simp [show k<es.length by omega]]
    have:=h3.2 _ (List.getElem_mem (l:=es) (n:=k) (by omega))
    omega
  · have hA:=hA (k+1) (by omega) (by omega)
    rw [zch _ (by omega),hp] at hA
    have hx:es.getD k ⟨0,0,0,[]⟩=es[k]'(by omega):=by simp [show k<es.length by omega]
    rw [hx]
    exact hA
  · rw [List.take_of_length_le (by omega)] at hp
    rw [← hp,hP]
def tN (I:Alg) (args:List D) (hp:List HO):Option CT:=match args,hp with
  |[.v (.one (.ptr 0 0)),.v (.one (.p (.int .i64 keep)))],[.pack [.obj 48 [(.ptr 1 0),(.ptr 2 0)],.pack [.obj 90 [(.row 1),(.p (.int .i64 n))],.row .upl 67 l],.pack [.obj 104 [(.row 1),(.p (.int .i64 s))],.row .byte 5 b]]]=>(fun(l:List Upl) (n:Int) (b:Str) (s keep:Int)=>(some (.one ⟨I.hid (b.length≤100000∧0≤s∧s≤b.length),(.ret (.tup [])),[.pack [.obj 48 [(.ptr 1 0),(.ptr 2 0)],.pack [.obj 90 [(.row 1),(.p (.int .i64 (I.hid ((crsP b s keep).2))))],.row .upl 67 (I.hid ((crsP b s keep).1))],.pack [.obj 104 [(.row 1),(.p (.int .i64 (I.hid (((crsB b s keep).length:Int)))))],.row .byte 5 (I.hid ((crsB b s keep)))]]]⟩):Option CT)) l n b s keep
  |_,_=>none
theorem Vy:zo Tryz.prog 22 (tN alg):=by
  intro args hp r h
  unfold tN at h
  split at h
  · cases h;exact fun hn=>zgt _ _ _ _ _ hn
  · cases h
def stoCrash__k:Know Tryz.prog:=⟨22,tN,Vy⟩
def stoCrash__l:Know Tryz.prog:=⟨22,fun I=>zu I (tN I),zf Vy⟩
end Go.Proofs.YtcclfkakcgnacaaGreatDoor
