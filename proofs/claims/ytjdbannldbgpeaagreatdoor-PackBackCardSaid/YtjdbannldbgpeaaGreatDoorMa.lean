/- Texts of this proof, one behind the other: Sep Row Ops Args Data Strs Still Heap Mix Calm AbA AbB AbC AbD AbE AbF AbG. -/
import Derived.WalkKit
import Derived.WalkSpells
import Derived.Lib.ConvBytes
import Derived.Below
import Derived.ProofKit
import Derived.SliceStrings
import Derived.StillTailTactics
import Derived.StillTactics
import Derived.Deep.MidRow
import Derived.Laws.MakeOwn
import Derived.OrdersHeld
import Derived.Deep.QuietTactic
import Derived.BigQuiet
import Derived.Lib.SliceRun
import Derived.Deep.Slices
set_option linter.all false
theorem ja {a b:Prop} (x:a) (y:b):a∧b:=⟨x,y⟩
theorem jb:True:=True.intro
theorem jc {a:Prop} (h:False):a:=h.elim
theorem jd:(false=true)=False:=Bool.false_eq_true
theorem je:type_of% @List.length_cons.{0}:=@List.length_cons.{0}
theorem jf:type_of% @List.length_nil.{0}:=@List.length_nil.{0}
theorem jg:type_of% @List.length_append.{0}:=@List.length_append.{0}
theorem jh:type_of% @List.getElem?_eq_some_iff.{0}:=@List.getElem?_eq_some_iff.{0}
theorem ji:type_of% @List.getElem?_eq_getElem.{0}:=@List.getElem?_eq_getElem.{0}
theorem jk:type_of% @List.append_assoc.{0}:=@List.append_assoc.{0}
theorem jl:type_of% @List.take_of_length_le.{0}:=@List.take_of_length_le.{0}
theorem jm:type_of% @List.length_singleton.{0}:=@List.length_singleton.{0}
theorem jq:type_of% @List.length_take.{0}:=@List.length_take.{0}
theorem jr:type_of% @Option.some.injEq.{0}:=@Option.some.injEq.{0}
theorem jw:type_of% @List.getElem?_append_left.{0}:=@List.getElem?_append_left.{0}
theorem jy:type_of% @List.getElem?_append_right.{0}:=@List.getElem?_append_right.{0}
theorem jA:type_of% @List.take_succ_eq_append_getElem.{0}:=@List.take_succ_eq_append_getElem.{0}
theorem jB:type_of% @List.length_drop.{0}:=@List.length_drop.{0}
theorem jC:type_of% @List.getElem?_take.{0}:=@List.getElem?_take.{0}
theorem jD:type_of% @List.drop_eq_getElem_cons.{0}:=@List.drop_eq_getElem_cons.{0}
theorem jE:type_of% @List.drop_of_length_le.{0}:=@List.drop_of_length_le.{0}
theorem jF:type_of% @List.getElem?_drop.{0}:=@List.getElem?_drop.{0}
theorem jG:type_of% @List.getD_eq_getElem?_getD.{0}:=@List.getD_eq_getElem?_getD.{0}
theorem jH:type_of% @Nat.eq_of_beq_eq_true:=@Nat.eq_of_beq_eq_true
theorem jI:type_of% @Int.toNat_natCast:=@Int.toNat_natCast
theorem jJ:type_of% @Bool.and_eq_true:=@Bool.and_eq_true
theorem jK:type_of% @Nat.le_refl:=@Nat.le_refl
theorem jL:type_of% @Nat.zero_le:=@Nat.zero_le
namespace Go.Sep
open Go
structure Keeps (F:Nat→Prop) (w w':World):Prop where
 os:w'.os=w.os
 tape:w'.tape=w.tape
 output:w'.output=w.output
 size:w.heap.size≤w'.heap.size
 block: ∀ k,F k→w'.heap[k]? =w.heap[k]?
theorem Keeps.refl (F:Nat→Prop) (w:World):Keeps F w w:=⟨rfl,rfl,rfl,jK _,fun _ _=>rfl⟩
theorem Keeps.trans {F:Nat→Prop} {a b c:World} (h:Keeps F a b) (k:Keeps F b c):Keeps F a c:=
 ⟨k.os.trans h.os,k.tape.trans h.tape,k.output.trans h.output,Nat.le_trans h.size k.size,fun i hi=>(k.block i hi).trans (h.block i hi)⟩
theorem Keeps.mono {F G:Nat→Prop} {w w':World} (h:Keeps F w w') (hg: ∀ k,G k→F k):Keeps G w w':=
 ⟨h.os,h.tape,h.output,h.size,fun k hk=>h.block k (hg k hk)⟩
structure Chunk where
 holds:World→(Nat→Prop)→Prop
 lt: ∀ {w F},holds w F→∀ k,F k→k<w.heap.size
 keep: ∀ {w w' F},holds w F→Keeps F w w'→holds w' F
def sep:List Chunk→World→(Nat→Prop)→Prop
 |[],_,F=>∀ k,¬ F k
 |c::l,w,F=>∃ A B,(∀ k,F k↔A k∨B k)∧(∀ k,A k→¬ B k)∧c.holds w A∧sep l w B
def At (w:World) (l:List Chunk):Prop:=∃ F,sep l w F
theorem zf8 {l:List Chunk} {w:World} {F G:Nat→Prop} (h:sep l w F) (e: ∀ k,G k↔F k):sep l w G:=by
 have:G=F:=funext fun k=>propext (e k);rw [this];exact h
theorem zdc {l:List Chunk} {w:World} {F:Nat→Prop} (h:sep l w F): ∀ k,F k→k<w.heap.size:=by
 induction l generalizing F with
 |nil=>intro k hk;exact(h k hk).elim
 | cons c l ih=>
   obtain⟨A,B,e,_,hc,hl⟩:=h;intro k hk
   rcases(e k).1 hk with h1|h1
   · exact c.lt hc k h1
   · exact ih hl k h1
theorem Wn {l:List Chunk} {w w':World} {F:Nat→Prop} (h:sep l w F) (hk:Keeps F w w'):sep l w' F:=by
 induction l generalizing F with
 |nil=>exact h
 | cons c l ih=>
   obtain⟨A,B,e,d,hc,hl⟩:=h;exact⟨A,B,e,d,c.keep hc (hk.mono fun k h=>(e k).2 (.inl h)),ih hl (hk.mono fun k h=>(e k).2 (.inr h))⟩
theorem zda {c d:Chunk} {l:List Chunk} {w:World} {F:Nat→Prop} (h:sep (c::d::l) w F):sep (d::c::l) w F:=by
 obtain⟨A,B,e,dj,hc,A',B',e',dj',hd,hl⟩:=h;refine⟨A',fun k=>A k∨B' k,?_,?_,hd,A,B',fun k=>Iff.rfl,?_,hc,hl⟩
 · intro k;rw [e k,e' k];constructor
   · rintro(h|h|h)<;>simp [h]
   · rintro(h|h|h)<;>simp [h]
 · rintro k h (h1|h1)
   · exact dj k h1 ((e' k).2 (.inl h))
   · exact dj' k h h1
 · intro k h h1;exact dj k h ((e' k).2 (.inr h1))
theorem zdb {l m:List Chunk} (p:l.Perm m): ∀ {w:World} {F:Nat→Prop},sep l w F→sep m w F:=by
 induction p with
 |nil=>intro w F h;exact h
 |cons c _ ih=>intro w F h;obtain⟨A,B,e,d,hc,hl⟩:=h;exact⟨A,B,e,d,hc,ih hl⟩
 |swap c d l=>intro w F h;exact zda h
 |trans _ _ ih1 ih2=>intro w F h;exact ih2 (ih1 h)
theorem At.perm {l m:List Chunk} {w:World} (h:At w l) (p:l.Perm m):At w m:=h.imp fun _ hF=>zdb p hF
theorem vI: ∀ (l:List Chunk) (i:Nat) (c:Chunk),l[i]? =some c→l.Perm (c::l.eraseIdx i)
 |[],i,c,h=>by simp at h
 |d::l,0,c,h=>by simp at h;subst h;exact .refl _
 | d::l,i+1,c,h=>by
   have h':l[i]? =some c:=by simpa using h
   have ih:=vI l i c h';exact(ih.cons d).trans (.swap _ _ _)
theorem At.pull {l:List Chunk} {w:World} (h:At w l) (i:Nat) (c:Chunk) (hc:l[i]? =some c):At w (c::l.eraseIdx i):=h.perm (vI l i c hc)
theorem At.swap {c d:Chunk} {l:List Chunk} {w:World} (h:At w (c::d::l)):At w (d::c::l):=h.imp fun _=>zda
theorem At.rot2 {a b c:Chunk} {l:List Chunk} {w:World} (h:At w (a::b::c::l)):At w (c::a::b::l):=
 h.perm ((List.Perm.swap c b l |>.cons a).trans (List.Perm.swap c a (b::l)))
theorem At.rot3 {a b c d:Chunk} {l:List Chunk} {w:World} (h:At w (a::b::c::d::l)):At w (d::a::b::c::l):=
 h.perm ((((List.Perm.swap d c l).cons b).trans (List.Perm.swap d b (c::l))).cons a |>.trans (List.Perm.swap d a (b::c::l)))
theorem At.tail {c:Chunk} {l:List Chunk} {w:World} (h:At w (c::l)):At w l:=by
 obtain⟨F,A,B,_,_,_,hl⟩:=h;exact⟨B,hl⟩
theorem At.head {c:Chunk} {l:List Chunk} {w:World} (h:At w (c::l)): ∃ A,c.holds w A:=by
 obtain⟨F,A,B,_,_,hc,_⟩:=h;exact⟨A,hc⟩
theorem At.step {c c':Chunk} {l:List Chunk} {w w':World} (H:At w (c::l))
  (h: ∀ A,c.holds w A→∃ A',c'.holds w' A'∧(∀ k,A' k→A k∨w.heap.size≤k)∧Keeps (fun k=>k<w.heap.size∧¬ A k) w w'):At w' (c'::l):=by
 obtain⟨F,A,B,e,d,hc,hl⟩:=H;obtain⟨A',hc',hA',hk⟩:=h A hc;have hlt:=zdc hl;refine⟨fun k=>A' k∨B k,A',B,fun _=>Iff.rfl,?_,hc',Wn hl (hk.mono fun k hB=>⟨hlt k hB,fun hA=>d k hA hB⟩)⟩;intro k h1 h2
 rcases hA' k h1 with h3|h3
 · exact d k h3 h2
 · have:=hlt k h2;omega
theorem At.new {c':Chunk} {l:List Chunk} {w w':World} (H:At w l) {A':Nat→Prop} (hc':c'.holds w' A') (hA': ∀ k,A' k→w.heap.size≤k)
  (hk:Keeps (fun k=>k<w.heap.size) w w'):At w' (c'::l):=by
 obtain⟨B,hl⟩:=H;have hlt:=zdc hl;refine⟨fun k=>A' k∨B k,A',B,fun _=>Iff.rfl,?_,hc',Wn hl (hk.mono fun k hB=>hlt k hB)⟩;intro k h1 h2;have:=hlt k h2;have:=hA' k h1;omega
theorem At.keep {l:List Chunk} {w w':World} (H:At w l) (hk:Keeps (fun k=>k<w.heap.size) w w'):At w' l:=by
 obtain⟨B,hl⟩:=H;exact⟨B,Wn hl (hk.mono (zdc hl))⟩
theorem zfi (w:World) (F:Nat→Prop):Keeps F w w.drew:=⟨rfl,rfl,rfl,jK _,fun _ _=>rfl⟩
theorem vg (w:World) (o:Obj):Keeps (fun k=>k<w.heap.size) w (w.alloc o):=
 ⟨rfl,rfl,rfl,by simp,fun k hk=>by show(w.heap.push o)[k]? =_;rw [Array.getElem?_push,if_neg (by omega)]⟩
theorem At.drew {l:List Chunk} {w:World} (H:At w l):At w.drew l:=H.keep (zfi w _)
theorem At.drewN {l:List Chunk} {w:World} (H:At w l) (n:Nat):At { w with drawn:=n} l:=H.keep ⟨rfl,rfl,rfl,jK _,fun _ _=>rfl⟩
def exC {α:Type} (f:α→Chunk):Chunk where
 holds w F:=∃ x,(f x).holds w F
 lt:=fun⟨x,h⟩=>(f x).lt h
 keep:=fun⟨x,h⟩ k=>⟨x,(f x).keep h k⟩
def sepC (l:List Chunk):Chunk where
 holds w F:=sep l w F
 lt:=zdc
 keep:=Wn
def zkL (p:Prop):Chunk where
 holds _ F:=p∧∀ k,¬ F k
 lt:=fun h k hk=>(h.2 k hk).elim
 keep:=fun h _=>h
theorem At.ex {α:Type} {f:α→Chunk} {l:List Chunk} {w:World}:At w (exC f::l)↔∃ x,At w (f x::l):=by
 constructor
 · rintro⟨F,A,B,e,d,⟨x,hx⟩,hl⟩;exact⟨x,F,A,B,e,d,hx,hl⟩
 · rintro⟨x,F,A,B,e,d,hx,hl⟩;exact⟨F,A,B,e,d,⟨x,hx⟩,hl⟩
theorem At.pure {p:Prop} {l:List Chunk} {w:World}:At w (zkL p::l)↔p∧At w l:=by
 constructor
 · rintro⟨F,A,B,e,d,⟨hp,_⟩,hl⟩;exact⟨hp,B,hl⟩
 · rintro⟨hp,B,hl⟩;exact⟨B,fun _=>False,B,fun k=>by simp,fun _ h=>h.elim,⟨hp,fun _ h=>h⟩,hl⟩
theorem Xf {l m:List Chunk} {w:World} {F:Nat→Prop}:sep (l++m) w F↔∃ A B,(∀ k,F k↔A k∨B k)∧(∀ k,A k→¬ B k)∧sep l w A∧sep m w B:=by
 induction l generalizing F with
 | nil=>
   constructor
   · intro h;exact⟨fun _=>False,F,fun k=>by simp,fun _ h=>h.elim,fun _ h=>h,h⟩
   · rintro⟨A,B,e,_,hA,hB⟩;exact zf8 hB fun k=>by rw [e k];simp [hA k]
 | cons c l ih=>
   constructor
   · rintro⟨A,B,e,d,hc,h⟩
     obtain⟨A',B',e',d',h1,h2⟩:=ih.1 h;refine⟨fun k=>A k∨A' k,B',?_,?_,⟨A,A',fun _=>Iff.rfl,fun k h3 h4=>d k h3 ((e' k).2 (.inl h4)),hc,h1⟩,h2⟩
     · intro k;rw [e k,e' k,or_assoc]
     · rintro k (h3|h3) h4
       · exact d k h3 ((e' k).2 (.inr h4))
       · exact d' k h3 h4
   · rintro⟨A,B,e,d,⟨A',B',e',d',hc,h1⟩,h2⟩
     refine⟨A',fun k=>B' k∨B k,?_,?_,hc,ih.2 ⟨B',B,fun _=>Iff.rfl,fun k h3 h4=>d k ((e' k).2 (.inr h3)) h4,h1,h2⟩⟩
     · intro k;rw [e k,e' k,or_assoc]
     · rintro k h3 (h4|h4)
       · exact d' k h3 h4
       · exact d k ((e' k).2 (.inl h3)) h4
theorem At.many {m l:List Chunk} {w:World}:At w (sepC m::l)↔At w (m++l):=by
 constructor
 · rintro⟨F,A,B,e,d,h1,h2⟩;exact⟨F,Xf.2 ⟨A,B,e,d,h1,h2⟩⟩
 · rintro⟨F,h⟩;obtain⟨A,B,e,d,h1,h2⟩:=Xf.1 h;exact⟨F,A,B,e,d,h1,h2⟩
def objC (b:Nat) (T:TypeId) (cs:List Value):Chunk where
 holds w F:=(∀ k,F k↔k=b)∧w.heap[b]? =some (.cells cs.toArray T (0,0))
 lt:=fun h k hk=>by
  have:=(h.1 k).1 hk;subst this;exact(Array.getElem?_eq_some_iff.1 h.2).1
 keep:=fun h hk=>⟨h.1,(hk.block _ ((h.1 _).2 rfl)).trans h.2⟩
theorem At.obj {b:Nat} {T:TypeId} {cs:List Value} {l:List Chunk} {w:World} (H:At w (objC b T cs::l)):w.heap[b]? =some (.cells cs.toArray T (0,0)):=by
 obtain⟨A,h⟩:=H.head;exact h.2
theorem zcz {w:World} {b:Nat} {T:TypeId} {cs:List Value} (h:w.heap[b]? =some (.cells cs.toArray T (0,0))) (i:Nat):w.cell? ⟨b,i,none⟩=cs[i]? :=by
 simp [World.cell?,h]
theorem zcl {w:World} {b:Nat} {T:TypeId} {cs:List Value} (h:w.heap[b]? =some (.cells cs.toArray T (0,0))) (i:Nat):w.frozen? ⟨b,i,none⟩=false:=by
 simp [World.frozen?,h]
theorem At.cell {b:Nat} {T:TypeId} {cs:List Value} {l:List Chunk} {w:World} (H:At w (objC b T cs::l)) (i:Nat):w.cell? ⟨b,i,none⟩=cs[i]? :=zcz H.obj i
theorem At.free {b:Nat} {T:TypeId} {cs:List Value} {l:List Chunk} {w:World} (H:At w (objC b T cs::l)) (i:Nat):w.frozen? ⟨b,i,none⟩=false:=zcl H.obj i
theorem Qh (w:World) (a:Addr) (u:Value):Keeps (fun k=>k≠a.block) w (w.setCell a u):=
 ⟨rfl,rfl,rfl,by simp [World.setCell],fun k hk=>by simp only [World.setCell,Array.getElem?_modify];rw [if_neg (by omega)]⟩
theorem X3 {w:World} {b:Nat} {T:TypeId} {cs:List Value} (h:w.heap[b]? =some (.cells cs.toArray T (0,0))) (i:Nat) (u:Value):
  (w.setCell ⟨b,i,none⟩ u).heap[b]? =some (.cells (cs.set i u).toArray T (0,0)):=by
 simp [World.setCell,Array.getElem?_modify,h,List.setIfInBounds_toArray]
theorem At.store {b:Nat} {T:TypeId} {cs:List Value} {l:List Chunk} {w:World} (H:At w (objC b T cs::l)) (i:Nat) (u:Value):
  At (w.setCell ⟨b,i,none⟩ u) (objC b T (cs.set i u)::l):=
 H.step fun A hA=>⟨A,⟨hA.1,X3 hA.2 i u⟩,fun _ h=>.inl h,(Qh w ⟨b,i,none⟩ u).mono fun k hk e=>hk.2 ((hA.1 k).2 e)⟩
theorem At.Va {l:List Chunk} {w:World} (H:At w l) (cs:List Value) (T:TypeId):At (w.alloc (.cells cs.toArray T)) (objC w.heap.size T cs::l):=
 H.new (A':=fun k=>k=w.heap.size) ⟨fun _=>Iff.rfl,by show(w.heap.push _)[_]? =_;simp⟩ (fun k h=>by omega) (vg w _)
def initC (W:World):Chunk where
 holds w F:=(∀ k,F k↔k<W.heap.size)∧Keeps (fun k=>k<W.heap.size) W w
 lt:=fun h k hk=>Nat.lt_of_lt_of_le ((h.1 k).1 hk) h.2.size
 keep:=fun h hk=>⟨h.1,h.2.trans (hk.mono fun k h1=>(h.1 k).2 h1)⟩
open Go.RowKit in
theorem At.below {W w:World} {l:List Chunk} (H:At w (initC W::l)):Below W.heap.size W w:=by
 obtain⟨A,_,h⟩:=H.head;exact⟨h.os,h.tape,h.output,h.size,h.block⟩
end Go.Sep
namespace Go.Sep
open Go
def blk (ao:Option Addr):Nat:=match ao with|some a=>a.block|none=>0
def ofs (ao:Option Addr):Nat:=match ao with|some a=>a.off|none=>0
def adr (ao:Option Addr) (j:Nat):Addr:=⟨blk ao,ofs ao+j,none⟩
def Rd (w:World) (size:Nat) (v:Value) (n:Nat) (cs:List Value):Prop:=
 ∃ ao cap,v=.slice ao n cap∧n≤cap∧cap≤maxLen∧(ao=none→cap=0)∧cs.length=n * size∧
   ∀ j u,cs[j]? =some u→(∃ a,ao=some a∧a.spot=none)∧w.cell? (adr ao j)=some u
theorem qJ {a:Addr} (h:a.spot=none) (j:Nat):a.add j=adr (some a) j:=by
 cases a with|mk b o s=>cases h;unfold Addr.add adr blk ofs;split<;>simp_all
def Src (P:Program) (w:World) (size:Nat) (x:Value) (m:Nat) (news:List Value):Prop:=
 news.length=m * size∧(∀ w',(Builtin.lenOf x).run P w'=.ok m w')∧∀ w',w'.heap=w.heap→(Builtin.firstCells size m x).run P w'=.ok news.toArray w'
theorem zih {w w':World} (h:w'.heap=w.heap) (a:Addr):w'.cell? a=w.cell? a:=by simp [World.cell?,h]
theorem Rd.src {P:Program} {w:World} {size:Nat} {v:Value} {n:Nat} {cs:List Value} (h:Rd w size v n cs):Src P w size v n cs:=by
 obtain⟨ao,cap,rfl,_,_,_,hl,hc⟩:=h;refine⟨hl,fun w'=>rfl,fun w' hw=> ?_⟩
 cases ao with
 | none=>
   have:cs=[]:=by
    cases cs with
    |nil=>rfl
    |cons u r=>obtain⟨⟨a,h,_⟩,_⟩:=hc 0 u rfl;cases h
   subst this
   simp [Builtin.firstCells]
 | some a=>
   refine run_firstCells_some w' size n a n cap cs hl fun j u hu=> ?_;obtain⟨⟨a',h1,h2⟩,h3⟩:=hc j u hu;cases h1;rw [qJ h2,zih hw];exact h3
def bv (c:UInt8):Value:=.int .u8 (c.toNat:Int)
def bvs (l:List UInt8):List Value:=l.map bv
@[simp] theorem xH (l:List UInt8):(bvs l).length=l.length:=by simp [bvs]
theorem SN (l m:List UInt8):bvs (l++m)=bvs l++bvs m:=by simp [bvs]
theorem bvs_getElem? (l:List UInt8) (j:Nat):(bvs l)[j]? =(l[j]?).map bv:=by simp [bvs]
theorem zeR {P:Program} {w:World} (s:ByteArray):Src P w 1 (.string s) s.size (bvs s.data.toList):=by
 refine⟨by simp [bvs],fun w'=>rfl,fun w' _=> ?_⟩
 have hx:(Array.map (fun b:UInt8=>Value.int IntKind.u8 (b.toNat:Int)) s.data).extract 0 s.size=Array.map (fun b:UInt8=>Value.int IntKind.u8 (b.toNat:Int)) s.data:=by
  have hs:s.size=(Array.map (fun b:UInt8=>Value.int IntKind.u8 (b.toNat:Int)) s.data).size:=by rw [Array.size_map];rfl
  rw [hs,Array.extract_size]
 have e:(s.extract 0 s.size)=s:=by simp
 simp only [Builtin.firstCells,e,Sem.run_pure]
 congr 1
 apply Array.ext'
 simp [bvs,bv]
def Free (fz:Nat × Nat) (n:Nat):Prop:=fz.1=fz.2∨n≤fz.1
theorem Free.cell {fz:Nat × Nat} {n:Nat} (h:Free fz n): ∀ j,j<n→¬ (fz.1≤j∧j<fz.2):=fun j hj hc=>by unfold Free at h;omega
def Owns (w:World) (E size:Nat) (v:Value) (n:Nat) (xs:List Value):Prop:=
 xs.length=n * size∧
 ((v=.slice none 0 0∧n=0)∨
  ∃ g cap cur fz,v=.slice (some ⟨g,0,none⟩) n cap∧w.heap[g]? =some (.cells cur E fz)∧Free fz cur.size∧n≤cap∧cap≤maxLen∧cap * size≤cur.size∧cur.toList.take (n * size)=xs)
def rowC (E size:Nat) (v:Value) (n:Nat) (xs:List Value):Chunk where
 holds w F:=(∀ k,F k↔v.ownBlock=some k)∧Owns w E size v n xs
 lt:=by
  rintro w F ⟨hF,hl,hv⟩ k hk;have hk:=(hF k).1 hk
  rcases hv with⟨rfl,_⟩|⟨g,cap,cur,fz,rfl,hg,_⟩
  · simp [Value.ownBlock] at hk
  · simp [Value.ownBlock] at hk;subst hk;exact(Array.getElem?_eq_some_iff.1 hg).1
 keep:=by
  rintro w w' F ⟨hF,hl,hv⟩ hk;refine⟨hF,hl,?_⟩
  rcases hv with h|⟨g,cap,cur,fz,rfl,hg,r⟩
  · exact .inl h
  · exact .inr ⟨g,cap,cur,fz,rfl,(hk.block g ((hF g).2 rfl)).trans hg,r⟩
theorem Owns.rd {w:World} {E size:Nat} {v:Value} {n:Nat} {xs:List Value} (h:Owns w E size v n xs):Rd w size v n xs:=by
 obtain⟨hl,⟨rfl,rfl⟩|⟨g,cap,cur,fz,rfl,hg,_,hnc,hcm,hcs,ht⟩⟩:=h
 · have:xs=[]:=List.eq_nil_of_length_eq_zero (by simpa using hl)
   subst this
   exact⟨none,0,rfl,jK _,jL _,fun _=>rfl,by simp,fun j u h=>by simp at h⟩
 · refine⟨_,cap,rfl,hnc,hcm,(fun h=>by cases h),hl,fun j u hu=>⟨⟨_,rfl,rfl⟩,?_⟩⟩
   rw [← ht,jC] at hu
   split at hu
   · simp only [adr,blk,ofs,World.cell?,hg,Nat.zero_add];simpa using hu
   · cases hu
theorem At.rd {w:World} {E size:Nat} {v:Value} {n:Nat} {xs:List Value} {l:List Chunk} (H:At w (rowC E size v n xs::l)):Rd w size v n xs:=by
 obtain⟨A,h⟩:=H.head;exact h.2.rd
theorem At.rowLen {w:World} {E size:Nat} {v:Value} {n:Nat} {xs:List Value} {l:List Chunk} (H:At w (rowC E size v n xs::l)):xs.length=n * size:=by
 obtain⟨A,h⟩:=H.head;exact h.2.1
theorem At.Rz {w:World} {E size:Nat} {v:Value} {n:Nat} {xs:List Value} {l:List Chunk} (H:At w (rowC E size v n xs::l)): ∃ ao cap,v=.slice ao n cap:=by
 obtain⟨ao,cap,h,_⟩:=H.rd;exact⟨ao,cap,h⟩
theorem At.nilRow {w:World} {l:List Chunk} (H:At w l) (E size:Nat):At w (rowC E size (.slice none 0 0) 0 []::l):=
 H.new (A':=fun _=>False) ⟨fun k=>by simp [Value.ownBlock],by simp,.inl ⟨rfl,rfl⟩⟩ (fun _ h=>h.elim) (Keeps.refl _ _)
theorem At.Zp {w:World} {l:List Chunk} (H:At w l) (E size n:Nat) (cs:Array Value) (fz:Nat × Nat) (hcs:cs.size=n * size) (hn:n≤maxLen) (hf:Free fz cs.size):
  At (w.alloc (.cells cs E fz)) (rowC E size (.slice (some ⟨w.heap.size,0,none⟩) n n) n cs.toList::l):=
 H.new (A':=fun k=>k=w.heap.size) ⟨fun k=>⟨fun h=>by rw [h];rfl,fun h=>by cases h;rfl⟩,by simpa using hcs,.inr ⟨w.heap.size,n,cs,fz,rfl,heap_alloc_new w _,hf,jK _,hn,Nat.le_of_eq hcs.symm,jl (by simp [hcs])⟩⟩
  (fun k h=>by omega) (vg w _)
theorem xA (n:Nat):Free (0,0) n:=.inl rfl
theorem yA (P:Program) (g o:Nat) (t:TypeId) (fz:Nat × Nat): ∀ (vs:List Value) (i:Nat) (cur:Array Value) (w:World),w.heap[g]? =some (.cells cur t fz)→Free fz cur.size→o+i+vs.length≤cur.size→(∀ v ∈ vs,v.oneCell'=true)→
  (storeCells ⟨g,o,none⟩ vs i).run P w=.ok () (w.setRow g (cur.toList.take (o+i)++vs++cur.toList.drop (o+i+vs.length)).toArray)
 | [],i,cur,w,hg,_,_,_=>by
   simp only [storeCells,List.append_nil,jf,Nat.add_zero,List.take_append_drop,Array.toArray_toList];rw [setRow_self w g cur t fz hg];rfl
 | v ::rest,i,cur,w,hg,hfz,hl,h1=>by
   have hi:o+i<cur.size:=by simp at hl;omega
   have hadd:(⟨g,o,none⟩:Addr).add i=⟨g,o+i,none⟩:=by unfold Addr.add;split<;>simp_all
   have hcell:w.cell? ⟨g,o+i,none⟩=some cur[o+i]:=by simp [World.cell?,hg,hi]
   have hfro:w.frozen? ⟨g,o+i,none⟩=false:=by
    obtain⟨lo,hi'⟩:=fz;have:=hfz.cell (o+i) hi;simp only [World.frozen?,hg,Bool.and_eq_false_iff,decide_eq_false_iff_not];simp only at this;omega
   have hst:(store ((⟨g,o,none⟩:Addr).add i) v).run P w=.ok () (w.setRow g (cur.setIfInBounds (o+i) v)):=by
    rw [hadd,run_store P w _ v _ (h1 v (by simp)),hcell]
    simp [hfro,setCell_eq_setRow w g (o+i) cur t fz v hg]
   have ih:=yA P g o t fz rest (i+1) (cur.setIfInBounds (o+i) v) (w.setRow g (cur.setIfInBounds (o+i) v)) (setRow_heap w g cur _ t _ hg) (by simpa using hfz) (by simp at hl ⊢;omega) (fun x hx=>h1 x (by simp [hx]))
   simp only [storeCells,Sem.run_bind,hst,Result.andThen_ok,ih,setRow_setRow]
   congr 3
   have e:=list_seg_step cur.toList (o+i) v rest (by simp at hl ⊢;omega)
   simpa [Array.toList_setIfInBounds,Nat.add_assoc] using e
theorem yU (w:World) (g:Nat) (cs:Array Value):Keeps (fun k=>k≠g) w (w.setRow g cs):=
 ⟨rfl,rfl,rfl,by simp [World.setRow],fun k hk=>setRow_other w g k cs hk⟩
theorem UW {P:Program} {w:World} {l:List Chunk} (t u ty E:TypeId) (i:TypeInfo) (z:Value) (size bytes:Nat) (ht:P.underlying t=some (.slice E)) {ud:TypeDesc} (hu:P.underlying u=some ud) (hud: ∀ k,ud≠ .int k)
  (hi:P.info? E=some i) (hz:i.zero=some z) (hsize:i.size=size) (hby:i.bytes=bytes) (hzs:z.cells.size=size)
  (v:Value) (n:Nat) (xs:List Value) (H:At w (rowC E size v n xs::l)) (x:Value) (m:Nat) (news:List Value) (hx:Src P w size x m news) (h1: ∀ u ∈ news,u.oneCell'=true)
  (h63:n+m≤maxLen) (hbytes:(n+m) * bytes≤140737488355328):
  ∃ v' w',(Builtin.append_ #[t,u] ty #[v,x]).run P w=.ok v' w'∧At w' (rowC E size v' (n+m) (xs++news)::l):=by
 subst hsize;subst hby;obtain⟨hl,hlen,hfirst⟩:=hx
 have hsmall:n+m≤9223372036854775807:=by simp only [maxLen] at h63;omega
 obtain⟨A0,hA0⟩:=H.head;have hown:=hA0.2
 have hlen2:(xs++news).length=(n+m) * i.size:=by rw [jg,hown.1,hl,Nat.add_mul]
 have grown: ∀ (old:Nat),old<n+m→
   At (w.drew.alloc (.cells (xs.toArray++news.toArray++Builtin.zeroCells z.cells (grownCap w (n+m) old E - (n+m))) E))
    (rowC E i.size (.slice (some ⟨w.heap.size,0,none⟩) (n+m) (grownCap w (n+m) old E)) (n+m) (xs++news)::l):=by
  intro old ho;have hge:=grownCap_ge w (n+m) old E;have hcm:grownCap w (n+m) old E≤maxLen:=grownCap_le_maxLen w (n+m) old E h63
  refine(H.tail.drew).new (A':=fun k=>k=w.heap.size) ⟨fun k=>by simp [Value.ownBlock,eq_comm],hlen2,.inr ⟨w.heap.size,_,_,(0,0),rfl,heap_alloc_new w.drew _,xA _,hge,hcm,?_,?_⟩⟩ (fun k h=>by simp [h]) (vg w.drew _)
  · refine Nat.le_of_eq (Eq.symm ?_)
    simp only [Array.size_append,List.size_toArray,size_zeroCells,hzs,hown.1,hl,← Nat.add_mul]
    congr 1
    omega
  · simp only [Array.toList_append,jk]
    rw [← jk,← hlen2];exact List.take_left
 have hf0:(Builtin.firstCells i.size m x).run P w=.ok news.toArray w:=hfirst w rfl;have hf1:(Builtin.firstCells i.size m x).run P w.drew=.ok news.toArray w.drew:=hfirst w.drew rfl
 rcases hown.2 with⟨rfl,rfl⟩|⟨g,cap,cur,fz,rfl,hg,hfree,hnc,hcm,hcs,htake⟩
 · have hx:xs=[]:=List.eq_nil_of_length_eq_zero (by simpa using hown.1)
   subst hx
   by_cases hm:m=0
   · subst hm
     have hn:news=[]:=List.eq_nil_of_length_eq_zero (by simpa using hl)
     subst hn
     refine⟨.slice none 0 0,w,?_,by simpa using H⟩
     simp [Builtin.append_,run_underlying ht,run_underlying hu,sizeOf,typeInfo,hi,hlen,hf0]
   · have h63': ¬ (9223372036854775807<(m:Int)):=by omega
     have h48': ¬ (281474976710656<Builtin.nextslicecap m 0 * i.bytes):=by
      have:=growslice_fits (need:=m) (old:=0) (bytes:=i.bytes) (by omega) (by simpa using hbytes);omega
     have hgr:=grown 0 (by omega)
     simp only [Nat.zero_add,List.nil_append,Array.empty_append] at hgr
     refine⟨_,_,?_,by simpa using hgr⟩
     simp [Builtin.append_,run_underlying ht,run_underlying hu,sizeOf,typeInfo,zeroValue,hi,hz,hlen,hm,h63',h48',Question.forced,run_firstCells_none,hf1,newRow,grownCap]
 · by_cases hroom:n+m≤cap
   · have hfit:n * i.size+news.length≤cur.size:=by rw [hl,← Nat.add_mul];exact Nat.le_trans (Nat.mul_le_mul_right _ hroom) hcs
     have hst:=yA P g (n * i.size) E fz news 0 cur w hg hfree (by simpa using hfit) h1
     simp only [Nat.add_zero] at hst
     have hsz:(cur.toList.take (n * i.size)++news++cur.toList.drop (n * i.size+news.length)).length=cur.size:=by
      simp only [jg,jq,jB,Array.length_toList];omega
     refine⟨.slice (some ⟨g,0,none⟩) (n+m) cap,w.setRow g (cur.toList.take (n * i.size)++news++cur.toList.drop (n * i.size+news.length)).toArray,?_,H.step fun A hA=>⟨A,⟨fun k=>by rw [hA.1 k];simp [Value.ownBlock],hlen2,.inr ⟨g,cap,_,fz,rfl,setRow_heap w g cur _ E _ hg,?_,hroom,hcm,?_,?_⟩⟩,fun _ h=>.inl h,(yU w g _).mono fun k hk e=>hk.2 ((hA.1 k).2 (by simp [Value.ownBlock,e]))⟩⟩
     · simp [Builtin.append_,run_underlying ht,run_underlying hu,sizeOf,typeInfo,hi,hlen,hroom,hf0,Addr.add_lit,hst]
     · simpa only [List.size_toArray,hsz] using hfree
     · simpa only [List.size_toArray,hsz] using hcs
     · rw [htake,← hlen2]
       exact List.take_left
   · have hn: ¬ (n+m≤cap):=hroom
     have h63': ¬ (9223372036854775807<((n:Int)+(m:Int))):=by omega
     have h48': ¬ (281474976710656<Builtin.nextslicecap (n+m) cap * i.bytes):=by
      have:=growslice_fits (need:=n+m) (old:=cap) (bytes:=i.bytes) (by omega) hbytes;omega
     have hrd:Src P w i.size (.slice (some ⟨g,0,none⟩) n cap) n xs:=hown.rd.src;have hfo:=hrd.2.2 w.drew rfl
     refine⟨_,_,?_,grown cap (by omega)⟩
     simp [Builtin.append_,run_underlying ht,run_underlying hu,sizeOf,typeInfo,zeroValue,hi,hz,hlen,hn,h63',h48',Question.forced,hf1,hfo,newRow,grownCap]
     congr 2
     apply Array.ext'
     simp [jk]
theorem zbZ {P:Program} {w:World} {l:List Chunk} (t u ty E:TypeId) (i:TypeInfo) (z:Value) (size bytes:Nat) (ht:P.underlying t=some (.slice E)) {ud:TypeDesc} (hu:P.underlying u=some ud) (hud: ∀ k,ud≠ .int k)
  (hi:P.info? E=some i) (hz:i.zero=some z) (hsize:i.size=size) (hby:i.bytes=bytes) (hzs:z.cells.size=size)
  (v:Value) (n:Nat) (xs:List Value) (H:At w (rowC E size v n xs::l)) (x:Value) (m:Nat) (news:List Value) (hx:Src P w size x m news) (h1: ∀ u ∈ news,u.oneCell'=true)
  (h63:n+m≤maxLen) (hbytes:(n+m) * bytes≤140737488355328):
  ∃ v' w',(Builtin.append_ #[t,u] ty #[v,x]).run P w=.ok v' w'∧(At w' (rowC E size v' (n+m) (xs++news)::rowC E size v n xs::l)∨(At w' (rowC E size v' (n+m) (xs++news)::l)∧∃ g cap,v=.slice (some g) n cap∧v'=.slice (some g) (n+m) cap)):=by
 subst hsize;subst hby;obtain⟨hl,hlen,hfirst⟩:=hx
 have hsmall:n+m≤9223372036854775807:=by simp only [maxLen] at h63;omega
 obtain⟨A0,hA0⟩:=H.head;have hown:=hA0.2
 have hlen2:(xs++news).length=(n+m) * i.size:=by rw [jg,hown.1,hl,Nat.add_mul]
 have grown: ∀ (old:Nat),old<n+m→
   At (w.drew.alloc (.cells (xs.toArray++news.toArray++Builtin.zeroCells z.cells (grownCap w (n+m) old E - (n+m))) E))
    (rowC E i.size (.slice (some ⟨w.heap.size,0,none⟩) (n+m) (grownCap w (n+m) old E)) (n+m) (xs++news)::rowC E i.size v n xs::l):=by
  intro old ho;have hge:=grownCap_ge w (n+m) old E;have hcm:grownCap w (n+m) old E≤maxLen:=grownCap_le_maxLen w (n+m) old E h63
  refine(H.drew).new (A':=fun k=>k=w.heap.size) ⟨fun k=>by simp [Value.ownBlock,eq_comm],hlen2,.inr ⟨w.heap.size,_,_,(0,0),rfl,heap_alloc_new w.drew _,xA _,hge,hcm,?_,?_⟩⟩ (fun k h=>by simp [h]) (vg w.drew _)
  · refine Nat.le_of_eq (Eq.symm ?_)
    simp only [Array.size_append,List.size_toArray,size_zeroCells,hzs,hown.1,hl,← Nat.add_mul]
    congr 1
    omega
  · simp only [Array.toList_append,jk]
    rw [← jk,← hlen2];exact List.take_left
 have hf0:(Builtin.firstCells i.size m x).run P w=.ok news.toArray w:=hfirst w rfl;have hf1:(Builtin.firstCells i.size m x).run P w.drew=.ok news.toArray w.drew:=hfirst w.drew rfl
 rcases hown.2 with⟨rfl,rfl⟩|⟨g,cap,cur,fz,rfl,hg,hfree,hnc,hcm,hcs,htake⟩
 · have hx:xs=[]:=List.eq_nil_of_length_eq_zero (by simpa using hown.1)
   subst hx
   by_cases hm:m=0
   · subst hm
     have hn:news=[]:=List.eq_nil_of_length_eq_zero (by simpa using hl)
     subst hn
     refine⟨.slice none 0 0,w,?_,.inl (by simpa using H.nilRow E i.size)⟩
     simp [Builtin.append_,run_underlying ht,run_underlying hu,sizeOf,typeInfo,hi,hlen,hf0]
   · have h63': ¬ (9223372036854775807<(m:Int)):=by omega
     have h48': ¬ (281474976710656<Builtin.nextslicecap m 0 * i.bytes):=by
      have:=growslice_fits (need:=m) (old:=0) (bytes:=i.bytes) (by omega) (by simpa using hbytes);omega
     have hgr:=grown 0 (by omega)
     simp only [Nat.zero_add,List.nil_append,Array.empty_append] at hgr
     refine⟨_,_,?_,.inl (by simpa using hgr)⟩
     simp [Builtin.append_,run_underlying ht,run_underlying hu,sizeOf,typeInfo,zeroValue,hi,hz,hlen,hm,h63',h48',Question.forced,run_firstCells_none,hf1,newRow,grownCap]
 · by_cases hroom:n+m≤cap
   · have hfit:n * i.size+news.length≤cur.size:=by rw [hl,← Nat.add_mul];exact Nat.le_trans (Nat.mul_le_mul_right _ hroom) hcs
     have hst:=yA P g (n * i.size) E fz news 0 cur w hg hfree (by simpa using hfit) h1
     simp only [Nat.add_zero] at hst
     have hsz:(cur.toList.take (n * i.size)++news++cur.toList.drop (n * i.size+news.length)).length=cur.size:=by
      simp only [jg,jq,jB,Array.length_toList];omega
     refine⟨.slice (some ⟨g,0,none⟩) (n+m) cap,w.setRow g (cur.toList.take (n * i.size)++news++cur.toList.drop (n * i.size+news.length)).toArray,?_,.inr ⟨H.step fun A hA=>⟨A,⟨fun k=>by rw [hA.1 k];simp [Value.ownBlock],hlen2,.inr ⟨g,cap,_,fz,rfl,setRow_heap w g cur _ E _ hg,?_,hroom,hcm,?_,?_⟩⟩,fun _ h=>.inl h,(yU w g _).mono fun k hk e=>hk.2 ((hA.1 k).2 (by simp [Value.ownBlock,e]))⟩,⟨g,0,none⟩,cap,rfl,rfl⟩⟩
     · simp [Builtin.append_,run_underlying ht,run_underlying hu,sizeOf,typeInfo,hi,hlen,hroom,hf0,Addr.add_lit,hst]
     · simpa only [List.size_toArray,hsz] using hfree
     · simpa only [List.size_toArray,hsz] using hcs
     · rw [htake,← hlen2]
       exact List.take_left
   · have hn: ¬ (n+m≤cap):=hroom
     have h63': ¬ (9223372036854775807<((n:Int)+(m:Int))):=by omega
     have h48': ¬ (281474976710656<Builtin.nextslicecap (n+m) cap * i.bytes):=by
      have:=growslice_fits (need:=n+m) (old:=cap) (bytes:=i.bytes) (by omega) hbytes;omega
     have hrd:Src P w i.size (.slice (some ⟨g,0,none⟩) n cap) n xs:=hown.rd.src;have hfo:=hrd.2.2 w.drew rfl
     refine⟨_,_,?_,.inl (grown cap (by omega))⟩
     simp [Builtin.append_,run_underlying ht,run_underlying hu,sizeOf,typeInfo,zeroValue,hi,hz,hlen,hn,h63',h48',Question.forced,hf1,hfo,newRow,grownCap]
     congr 2
     apply Array.ext'
     simp [jk]
theorem zeK {P:Program} {w:World} {l:List Chunk} {ops:Array Oper} {rest:List Oper} {a:Act} {Q:Exit→Act→World→Prop} {dst:Option Tmp} {ty:TypeId} {pos:String} {af:Array Edge} {gd:Option (Nat × Bool)}
  (s x:Operand) (t u E:TypeId) (i:TypeInfo) (z:Value) (size bytes:Nat) (ht:P.underlying t=some (.slice E)) {ud:TypeDesc} (hu:P.underlying u=some ud) (hud: ∀ k,ud≠ .int k)
  (hi:P.info? E=some i) (hz:i.zero=some z) (hsize:i.size=size) (hby:i.bytes=bytes) (hzs:z.cells.size=size)
  (v:Value) (n:Nat) (xs:List Value) (hs:a.eval s=v) (H:At w (rowC E size v n xs::l)) (xv:Value) (m:Nat) (news:List Value) (hx:a.eval x=xv) (hsrc:Src P w size xv m news) (h1: ∀ u ∈ news,u.oneCell'=true)
  (h63:n+m≤maxLen) (hbytes:(n+m) * bytes≤140737488355328)
  (hw:Region.wanted ⟨dst,.call { callee:=.builtin .append,args:= #[s,x],argTypes:= #[t,u]},ty,pos,af,gd⟩ (yielded ops a.tmps)=true)
  (h: ∀ v' w',At w' (rowC E size v' (n+m) (xs++news)::l)→wpList P ops Q rest (a.put dst v') w'):
  wpList P ops Q (⟨dst,.call { callee:=.builtin .append,args:= #[s,x],argTypes:= #[t,u]},ty,pos,af,gd⟩::rest) a w:=by
 obtain⟨v',w',hr,hA⟩:=UW t u ty E i z size bytes ht hu hud hi hz hsize hby hzs v n xs H xv m news hsrc h1 h63 hbytes;refine BigFrame.wpList_want hw fun K hK=> ?_;unfold Oper.wp execOp;simp only [resolve,invoke,builtin,Sem.run_bind,Sem.run_pure,Result.andThen_ok,List.map_toArray,List.map_cons,List.map_nil,hs,hx,hr];exact hK _ _ (h v' w' hA)
theorem Vd (n:Int) (h: -9223372036854775808≤n∧n≤9223372036854775807):IntKind.i64.wrap n=n:=by
 unfold IntKind.wrap
 simp only [show IntKind.i64.signed=true by decide,show IntKind.i64.bits=64 by decide]
 split<;>simp_all<;>omega
theorem wrap_i64 (n:Nat) (h:n≤9223372036854775807):IntKind.i64.wrap (n:Int)=n:=Vd n ⟨by omega,by omega⟩
theorem zbY {P:Program} {w:World} {l:List Chunk} (t u ty E:TypeId) (i:TypeInfo) (z:Value) (ht:P.underlying t=some (.slice E)) {k:IntKind} (hu:P.underlying u=some (.int k))
  (hi:P.info? E=some i) (hz:i.zero=some z) (hzs:z.cells.size=i.size) (H:At w l) (n:Nat) (kk:IntKind) (h63:n≤maxLen) (hbytes:n * i.bytes≤140737488355328):
  ∃ v' w',(Builtin.append_ #[t,u] ty #[.slice none 0 0,.int kk n]).run P w=.ok v' w'∧At w' (rowC E i.size v' n (Builtin.zeroCells z.cells n).toList::l):=by
 have hsmall:n≤9223372036854775807:=by simp only [maxLen] at h63;omega
 have hw:=wrap_i64 n hsmall
 have hl1: ¬ ((n:Int)<0):=by omega
 have hb2:(n:Int) * (i.bytes:Int)≤140737488355328:=by rw [← Int.natCast_mul];omega
 have hl2: ¬ (281474976710656<(n:Int) * (i.bytes:Int)):=by omega
 by_cases hm:n=0
 · subst hm
   have hw0:IntKind.i64.wrap 0=0:=hw
   refine⟨.slice none 0 0,w,?_,by simpa [Builtin.zeroCells] using H.nilRow E i.size⟩
   simp [Builtin.append_,run_underlying ht,run_underlying hu,sizeOf,typeInfo,hi,asInt,asIntOf,hw0]
 · have h63': ¬ (9223372036854775807<(n:Int)):=by omega
   have h48': ¬ (281474976710656<Builtin.nextslicecap n 0 * i.bytes):=by
    have:=growslice_fits (need:=n) (old:=0) (bytes:=i.bytes) (by omega) (by simpa using hbytes);omega
   have hge:=grownCap_ge w n 0 E;have hcm:grownCap w n 0 E≤maxLen:=grownCap_le_maxLen w n 0 E h63
   have hgr:At (w.drew.alloc (.cells (Builtin.zeroCells z.cells n++Builtin.zeroCells z.cells (grownCap w n 0 E - n)) E))
     (rowC E i.size (.slice (some ⟨w.heap.size,0,none⟩) n (grownCap w n 0 E)) n (Builtin.zeroCells z.cells n).toList::l):=by
    refine(H.drew).new (A':=fun k=>k=w.heap.size) ⟨fun k=>by simp [Value.ownBlock,eq_comm],by rw [Array.length_toList,size_zeroCells,hzs],.inr ⟨w.heap.size,_,_,(0,0),rfl,heap_alloc_new w.drew _,xA _,hge,hcm,?_,?_⟩⟩ (fun k h=>by simp [h]) (vg w.drew _)
    · refine Nat.le_of_eq (Eq.symm ?_)
      simp only [Array.size_append,size_zeroCells,hzs,← Nat.add_mul]
      congr 1
      omega
    · simp only [Array.toList_append]
      rw [show n * i.size=(Builtin.zeroCells z.cells n).toList.length by rw [Array.length_toList,size_zeroCells,hzs]]
      exact List.take_left
   refine⟨_,_,?_,hgr⟩
   have hnz:n * i.size=0→Builtin.zeroCells z.cells n= #[]:=fun h=>by
    apply Array.eq_empty_of_size_eq_zero;rw [size_zeroCells,hzs];exact h
   by_cases h0:n * i.size=0
   · simp [Builtin.append_,run_underlying ht,run_underlying hu,sizeOf,typeInfo,zeroValue,hi,hz,asInt,asIntOf,hw,hl1,hl2,hm,h63',h48',Question.forced,run_firstCells_none,newRow,grownCap,h0,hnz h0]
   · simp [Builtin.append_,run_underlying ht,run_underlying hu,sizeOf,typeInfo,zeroValue,hi,hz,asInt,asIntOf,hw,hl1,hl2,hm,h63',h48',Question.forced,run_firstCells_none,newRow,grownCap,h0]
theorem zlB (l:List UInt8): ∀ u ∈ bvs l,u.oneCell'=true:=by
 intro u hu;simp only [bvs,List.mem_map] at hu;obtain⟨c,_,rfl⟩:=hu;rfl
end Go.Sep
namespace Go.Sep
open Go
theorem Rd.spot {w:World} {size:Nat} {ao:Option Addr} {n cap:Nat} {cs:List Value} (h:Rd w size (.slice ao n cap) n cs) {j:Nat} (hj:j<cs.length): ∃ a,ao=some a∧a.spot=none:=by
 obtain⟨ao',cap',e,_,_,_,_,hc⟩:=h;cases e;exact(hc j _ (ji hj)).1
theorem Rd.cell {w:World} {size:Nat} {ao:Option Addr} {n cap:Nat} {cs:List Value} (h:Rd w size (.slice ao n cap) n cs) {j:Nat} (hj:j<cs.length):w.cell? (adr ao j)=some cs[j]:=by
 obtain⟨ao',cap',e,_,_,_,_,hc⟩:=h;cases e;exact(hc j _ (ji hj)).2
theorem Rd.len {w:World} {size:Nat} {v:Value} {n:Nat} {cs:List Value} (h:Rd w size v n cs):cs.length=n * size:=by
 obtain⟨_,_,_,_,_,_,hl,_⟩:=h;exact hl
theorem Rd.le {w:World} {size:Nat} {v:Value} {n:Nat} {cs:List Value} (h:Rd w size v n cs):n≤9223372036854775807:=by
 obtain⟨_,_,_,h1,h2,_,_,_⟩:=h;unfold maxLen at h2;omega
theorem run_indexAt {P:Program} {w:World} {T E size:Nat} (ht:P.underlying T=some (.slice E)) (hs:(P.info? E).map (·.size)=some size) (ao:Option Addr) (n cap:Nat) (k:IntKind) (i:Int)
  (h0:0≤i) (h1:i<n) (hsp: ∃ a,ao=some a∧a.spot=none):(Instr.indexAt T (.slice ao n cap) (.int k i)).run P w=.ok (.pointer (some (adr ao (i.toNat * size)))) w:=by
 obtain⟨a,rfl,ha⟩:=hsp
 obtain⟨inf,hi,hz⟩: ∃ inf,P.info? E=some inf∧inf.size=size:=by
  cases h:P.info? E with
  |none=>simp [h] at hs
  |some inf=>exact⟨inf,rfl,by simpa [h] using hs⟩
 simp [Instr.indexAt,asIntOf,run_underlying ht,h0,h1,sizeOf,typeInfo,hi,hz,qJ ha]
theorem hid {p:Prop} (h:p):RowKit.Hid p:=h
theorem zf {P:Program} {w w':World} {ops:Array Oper} {rest:List Oper} {a:Act} {Q:Exit→Act→World→Prop} {o:Oper} (hw:Region.wanted o (yielded ops a.tmps)=true) {v:Value}
  (hr:(execOp a.eval o).run P w=.ok (.value v) w') (h:wpList P ops Q rest (a.put o.dst v) w'):wpList P ops Q (o::rest) a w:=by
 refine BigFrame.wpList_want hw fun K hK=> ?_;unfold Oper.wp;rw [hr];exact hK _ _ h
def sub (v:Value) (size l h:Nat):Value:=
 match v with
 |.slice ao _ cap=>.slice (if cap=l then ao else ao.map (·.add (l * size))) (h - l) (cap - l)
 |v=>v
theorem Rd.sub {w:World} {size:Nat} {v:Value} {n:Nat} {cs:List Value} (H:Rd w size v n cs) {l h:Nat} (hlh:l≤h) (hn:h≤n):
  Rd w size (sub v size l h) (h - l) ((cs.drop (l * size)).take ((h - l) * size)):=by
 obtain⟨ao,cap,rfl,hnc,hcm,hno,hl,hc⟩:=H;have hle:h * size≤n * size:=Nat.mul_le_mul_right _ hn;have hle2:(h - l) * size=h * size - l * size:=Nat.sub_mul _ _ _;have hle3:l * size≤h * size:=Nat.mul_le_mul_right _ hlh
 refine⟨_,_,rfl,by omega,by omega,fun e=> ?_,by rw [jq,jB];omega,fun j u hj=> ?_⟩
 · cases ao with
   |none=>have:=hno rfl;omega
   |some a=>split at e<;>simp at e
 rw [jC] at hj
 split at hj
 · rename_i hlt
   rw [jF] at hj;obtain⟨⟨a,rfl,ha⟩,hcell⟩:=hc _ _ hj
   have hsz:0<size:=by
    rcases Nat.eq_zero_or_pos size with h0|h0
    · subst h0;simp at hlt
    · exact h0
   have hne:cap≠l:=by
    intro e
    have:0<h - l:=by
     rcases Nat.eq_zero_or_pos (h - l) with h0|h0
     · rw [h0] at hlt;simp at hlt
     · exact h0
    omega
   rw [if_neg hne];refine⟨⟨_,rfl,?_⟩,?_⟩
   · show(a.add (l * size)).spot=none;rw [qJ ha];rfl
   · rw [show adr (Option.map (fun x=>x.add (l * size)) (some a)) j=adr (some a) (l * size+j) from by simp [qJ ha,adr,blk,ofs,Nat.add_assoc]]
     exact hcell
 · cases hj
theorem Vq {P:Program} {w:World} {T E size:Nat} (ht:P.underlying T=some (.slice E)) (hs:(P.info? E).map (·.size)=some size) (ao:Option Addr) (n cap l h:Nat) (hnc:n≤cap)
  {lo hi:Option Value} (hlo:(lo=none∧l=0)∨∃ k,lo=some (.int k l)) (hhi:(hi=none∧h=n)∨∃ k,hi=some (.int k h)) (hlh:l≤h) (hn:h≤n):
  (Instr.sliceAt T (.slice ao n cap) lo hi none).run P w=.ok (sub (.slice ao n cap) size l h) w:=by
 obtain⟨inf,hi,hz⟩: ∃ inf,P.info? E=some inf∧inf.size=size:=by
  cases h:P.info? E with
  |none=>simp [h] at hs
  |some inf=>exact⟨inf,rfl,by simpa [h] using hs⟩
 have hhc:h≤cap:=by omega
 rcases hlo with⟨rfl,rfl⟩|⟨k,rfl⟩<;>rcases hhi with⟨rfl,rfl⟩|⟨k',rfl⟩<;>
  simp [Instr.sliceAt,Instr.slice,Instr.sliceBounds,Instr.sliceBound,asIntOf,run_underlying ht,sizeOf,typeInfo,hi,hz,sub,hlh,hhc]
def S (l:List UInt8):ByteArray:=⟨l.toArray⟩
@[simp] theorem ziG (l:List UInt8):(S l).size=l.length:=by simp [S,ByteArray.size]
@[simp] theorem Xc (l:List UInt8):(S l).data.toList=l:=by simp [S]
@[simp,go_sem] theorem S_toList' (l:List UInt8):(S l).toList=l:=by rw [ByteArray.toList_eq,Xc]
theorem S_of (s:ByteArray):S s.data.toList=s:=by cases s;simp [S]
theorem foldl_push (l:List UInt8) (s:ByteArray):((l.map fun c=>(c.toNat:Int)).foldl (fun r n=>r.push (UInt8.ofNat n.toNat)) s).data.toList=s.data.toList++l:=by
 induction l generalizing s with
 |nil=>simp
 |cons c l ih=>simp only [List.map_cons,List.foldl_cons];rw [ih];simp [ByteArray.push]
theorem Rx {P:Program} {w:World} {src dst E:Nat} (hs:P.underlying src=some (.slice E)) (he:P.underlying E=some (.int .u8)) (hd:P.underlying dst=some .string)
  {v:Value} {n:Nat} {bs:List UInt8} (h:Rd w 1 v n (bvs bs)):(convert src dst v).run P w=.ok (.string (S bs)) w:=by
 have hsrc:=h.src (P:=P);obtain⟨ao,cap,rfl,_,_,_,hl,hc⟩:=h;rw [run_convert_bytes_string w src dst E ao n cap hs he hd]
 cases ao with
 | none=>
   have:bs=[]:=by
    cases bs with
    |nil=>rfl
    |cons u r=>obtain⟨⟨a,h,_⟩,_⟩:=hc 0 _ rfl;cases h
   subst this;rfl
 | some a=>
   have hn:n=bs.length:=by simpa using hl.symm
   have e:bvs bs=(bs.map fun c=>(c.toNat:Int)).map (Value.int .u8):=by simp [bvs,bv]
   have h2:=hsrc.2.2 w rfl;simp only [Builtin.firstCells,Nat.mul_one] at h2;rw [e] at h2;rw [run_bytesToString w a n cap _ h2]
   congr 2
   have:=foldl_push bs ByteArray.empty;rw [← S_of (List.foldl _ _ _),this];rfl
theorem zfL {P:Program} {w:World} {l:List Chunk} {ops:Array Oper} {rest:List Oper} {a:Act} {Q:Exit→Act→World→Prop} {d:Option Tmp} {ty:TypeId} {pos:String} {af:Array Edge} {gd:Option (Nat × Bool)} {src dst E:TypeId} {x:Operand}
  {u:TypeDesc} (hs:P.underlying src=some u) (hd:P.underlying dst=some (.slice E)) (he:P.underlying E=some (.int .u8)) {s:ByteArray} (hx:a.eval x=.string s) (hm:s.size≤maxLen) (H:At w l)
  (hw:Region.wanted ⟨d,.convert src dst x,ty,pos,af,gd⟩ (yielded ops a.tmps)=true) (hk: ∀ v' w',At w' (rowC E 1 v' s.size (bvs s.data.toList)::l)→wpList P ops Q rest (a.put d v') w'):wpList P ops Q (⟨d,.convert src dst x,ty,pos,af,gd⟩::rest) a w:=by
 refine zf hw (v:=.slice (some ⟨w.heap.size,0,none⟩) s.size (grownCap w s.size 0 E)) (w':=Lib.bytesWorld w E s) ?_ (hk _ _ ?_)
 · simp only [execOp,hx,Sem.run_bind,Lib.run_convert_string_bytes w src dst E s hs hd he,Result.andThen_ok,Sem.run_pure]
 · have hge:=grownCap_ge w s.size 0 E
   refine H.new (A':=fun k=>k=w.heap.size) ⟨fun k=>⟨fun h=>by rw [h];rfl,fun h=>by cases h;rfl⟩,by simp,.inr ⟨w.heap.size,_,_,_,rfl,Lib.bytesWorld_at_new w E s,?_,hge,grownCap_le_maxLen w s.size 0 E hm,?_,?_⟩⟩ (fun k h=>by omega) ⟨rfl,rfl,rfl,by rw [Lib.bytesWorld_size];omega,fun k hk=>Lib.bytesWorld_at_old w E s k hk⟩
   · exact .inr (jK _)
   · simp [Lib.bytesCells];omega
   · rw [Nat.mul_one,Lib.bytesCells,Array.toList_append,List.take_left' (by simp)]
     simp [bvs,bv]
end Go.Sep
namespace Go.Sep
open Go
theorem block_lt {w:World} {a:Addr} {u:Value} (h:w.cell? a=some u):a.block<w.heap.size:=World.block_lt_of_cell? w a h
theorem Rd.later {W w:World} {l:List Chunk} {size:Nat} {v:Value} {n:Nat} {cs:List Value} (h:Rd W size v n cs) (H:At w (initC W::l)):Rd w size v n cs:=by
 obtain⟨ao,cap,e,h1,h2,h4,h3,hc⟩:=h;refine⟨ao,cap,e,h1,h2,h4,h3,fun j u hu=> ?_⟩;obtain⟨hs,hcell⟩:=hc j u hu;exact⟨hs,(H.below.cell (block_lt hcell)).trans hcell⟩
theorem zfO {k:Int} (h:(Lit.int .u8 k).wf=true):0≤k∧k<256:=by
 simp [Lit.wf,IntKind.min,IntKind.max,IntKind.signed,IntKind.bits] at h
 omega
end Go.Sep
namespace Go.Sep
open Go
abbrev Rel (α:Type):=World→List Value→α→Prop
def RInt (k:IntKind):Rel Int:=fun _ cs n=>cs=[.int k n]∧(Lit.int k n).wf=true
def zjY:Rel UInt8:=fun _ cs c=>cs=[bv c]
def RSl {α:Type} (size:Nat) (R:Rel α):Rel (List α):=fun w cs xs=>
 ∃ v vs,cs=[v]∧Rd w size v xs.length vs∧∀ (i:Nat) x,xs[i]? =some x→R w ((vs.drop (i * size)).take size) x
section
variable {H:Type} {enc:TypeId × Value→H} {P:Program} {w:World} {base:Nat} {spare:Nat→Bool} {held:Bool}
def Opens {H:Type} (enc:TypeId × Value→H) (P:Program) (w:World) (base:Nat) (spare:Nat→Bool) (held:Bool) {α:Type} (t:TypeId) (R:Rel α):Prop:=
 ∀ fuel cs y,DataW.trod enc P w base spare held fuel t cs=some y→∃ x:α,R w cs x
theorem zgI {t:TypeId} {k:IntKind} (ht:P.underlying t=some (.int k)):Opens enc P w base spare held t (RInt k):=by
 intro fuel cs y h;obtain⟨n,rfl,_,hn⟩:=DataW.trod_int ht h;exact⟨n,rfl,hn⟩
theorem zm4 {n:Int} (h:(Lit.int .u8 n).wf=true):Value.int .u8 n=bv (UInt8.ofNat n.toNat):=by
 have hb:=zfO h;unfold bv
 congr 1
 have h2:n.toNat<256:=by omega
 simp [UInt8.toNat_ofNat',Nat.mod_eq_of_lt h2]
 omega
theorem ze3 {t:TypeId} (ht:P.underlying t=some (.int .u8)):Opens enc P w base spare held t zjY:=by
 intro fuel cs y h;obtain⟨n,rfl,_,hn⟩:=DataW.trod_int ht h;exact⟨UInt8.ofNat n.toNat,congrArg (fun v=>[v]) (zm4 hn)⟩
theorem cells?_get {a:Addr} {n:Nat} {cs:List Value} (h:w.cells? base a n=some cs):cs.length=n∧∀ j u,cs[j]? =some u→w.cell? (a.add j)=some u:=by
 unfold World.cells? at h
 split at h
 · refine⟨by simpa using mapM_some_length h,fun j u hj=> ?_⟩
   have hl:j<n:=by
    have:=(jh.1 hj).1;have:=mapM_some_length h
    simp at this;omega
   rw [← hj]
   exact mapM_some_get h j j (by simp [hl])
 · cases h
theorem zkC {a:Addr} {u:Value} (h:w.cell? a=some u):a.spot=none:=by
 cases hs:a.spot with
 |none=>rfl
 | some s=>
   unfold World.cell? at h;rw [hs] at h
   split at h<;>simp at h
end
theorem RSl.bytes {w:World} {v:Value} {bs:List UInt8} (h:RSl 1 zjY w [v] bs):Rd w 1 v bs.length (bvs bs):=by
 obtain⟨v',vs,e,hr,hx⟩:=h;cases e;have hl:=hr.len
 have:vs=bvs bs:=by
  apply List.ext_getElem?;intro i;rw [bvs_getElem?]
  rcases Nat.lt_or_ge i bs.length with hi|hi
  · have h1:=hx i bs[i] (ji hi)
    unfold zjY at h1
    have h2:((vs.drop (i * 1)).take 1)[0]? =some (bv bs[i]):=by rw [h1];rfl
    rw [jC,jF] at h2
    simp at h2
    rw [ji hi]
    simpa using h2
  · rw [List.getElem?_eq_none (by omega),List.getElem?_eq_none (by omega)];rfl
 rw [← this];exact hr
theorem RSl.len {α:Type} {size:Nat} {R:Rel α} {w:World} {ao:Option Addr} {n cap:Nat} {xs:List α} (h:RSl size R w [.slice ao n cap] xs):n=xs.length∧n≤cap∧n≤9223372036854775807:=by
 obtain⟨v',vs,e,hr,hx⟩:=h;cases e;have:=hr.le;obtain⟨ao',cap',e,hc,_⟩:=hr;cases e;exact⟨rfl,hc,this⟩
end Go.Sep
namespace Go.Sep
open Go
attribute [go_sem] ziG
@[go_sem] theorem zjX (a b:List UInt8):S a++S b=S (a++b):=by
  cases h:S a++S b with
  | mk d=>
    have:d.toList=a++b:=by
     have h2:=congrArg (fun s=>s.data.toList) h
     simp at h2
     exact h2.symm
    unfold S;rw [← this]
theorem zak {P:Program} {w:World} {T:TypeId} (ht:P.underlying T=some .string) (l:List UInt8) (k:IntKind) (j:Nat) (c:UInt8) (hc:l[j]? =some c):
  (Instr.index T (.string (S l)) (.int k j)).run P w=.ok (bv c) w:=by
 have hj:j<l.length:=(jh.1 hc).1
 have hs:(S l)[j]? =some c:=by
  have:j<(S l).size:=by simpa using hj
  rw [getElem?_pos (S l) j this]
  simp [S,ByteArray.getElem_eq_getElem_data] at hc ⊢
  exact(jh.1 hc).2
 simp [Instr.index,asIntOf,run_underlying ht,hs,bv]
theorem ziH (l:List UInt8) (a b:Nat):(S l).extract a b=S ((l.drop a).take (b - a)):=by
 rw [← S_of ((S l).extract a b)]
 congr 1
 simp [S,List.extract_eq_take_drop]
end Go.Sep
namespace Go.Sep
open Go
section
variable {P:Program} {ops:Array Oper} {Q:Act→Prop} {a:Act} {w:World} {rest:List Oper}
theorem zn {id:Nat} {Q:Exit→Act→World→Prop} {l:List Oper} {L:List Chunk} (n:Nat) (hm:P.follows .mixedOrders=true) (hB:Region.lexTailB .any l.toArray n=true) (H:At w L)
  (h: ∀ w1,At w1 L→wpStill P l.toArray w1 (fun a'=>wpList P l.toArray Q (l.drop n) a' w1) (l.take n) a):(Code.region id l.toArray true).wp P Q a w:=
 wp_region_still_tail n hm hB (h _ H.drew)
theorem zx {o:Oper} (hw:Region.wanted o (yielded ops a.tmps)=true) {v:Value}
  (hr:(execOp a.eval o).run P w=.ok (.value v) w) (h:wpStill P ops w Q rest (a.put o.dst v)):wpStill P ops w Q (o::rest) a:=by
 unfold wpStill;rw [if_pos hw];unfold Oper.still;rw [hr];exact⟨rfl,h⟩
end
end Go.Sep
namespace Go.Sep
open Go
theorem At.p1 {a b:Chunk} {l:List Chunk} {w:World} (h:At w (a::b::l)):At w (b::a::l):=h.swap
theorem At.p2 {a b c:Chunk} {l:List Chunk} {w:World} (h:At w (a::b::c::l)):At w (c::a::b::l):=h.rot2
theorem At.p3 {a b c d:Chunk} {l:List Chunk} {w:World} (h:At w (a::b::c::d::l)):At w (d::a::b::c::l):=h.rot3
theorem At.p4 {a b c d e:Chunk} {l:List Chunk} {w:World} (h:At w (a::b::c::d::e::l)):At w (e::a::b::c::d::l):=h.pull 4 e rfl
theorem At.p5 {a b c d e f:Chunk} {l:List Chunk} {w:World} (h:At w (a::b::c::d::e::f::l)):At w (f::a::b::c::d::e::l):=h.pull 5 f rfl
theorem At.p6 {a b c d e f g:Chunk} {l:List Chunk} {w:World} (h:At w (a::b::c::d::e::f::g::l)):At w (g::a::b::c::d::e::f::l):=h.pull 6 g rfl
theorem At.one {c:Chunk} {l:List Chunk} {w:World} (h:At w (c::l)):At w [c]:=by
 obtain⟨F,A,B,_,_,hc,_⟩:=h
 exact⟨A,A,fun _=>False,fun k=>by simp,fun _ _ h=>h,hc,fun _ h=>h⟩
theorem At.drop1 {a b:Chunk} {l:List Chunk} {w:World} (h:At w (a::b::l)):At w (a::l):=h.swap.tail
def Sub (l m:List Chunk):Prop:=∀ w F,sep l w F→∃ G,(∀ k,G k→F k)∧sep m w G
theorem Sub.refl (l:List Chunk):Sub l l:=fun _ F h=>⟨F,fun _ h=>h,h⟩
theorem Sub.nil (l:List Chunk):Sub l []:=fun _ _ _=>⟨fun _=>False,fun _ h=>h.elim,fun _ h=>h⟩
theorem Sub.drop {c:Chunk} {l m:List Chunk} (h:Sub l m):Sub (c::l) m:=fun w F hs=>by
 obtain⟨A,B,e,_,_,hl⟩:=hs;obtain⟨G,hG,hm⟩:=h w B hl;exact⟨G,fun k hk=>(e k).2 (.inr (hG k hk)),hm⟩
theorem Sub.c0 {c:Chunk} {l m:List Chunk} (h:Sub l m):Sub (c::l) (c::m):=fun w F hs=>by
 obtain⟨A,B,e,d,hc,hl⟩:=hs;obtain⟨G,hG,hm⟩:=h w B hl;exact⟨fun k=>A k∨G k,fun k hk=>(e k).2 (hk.imp id (hG k)),A,G,fun _=>Iff.rfl,fun k hA hk=>d k hA (hG k hk),hc,hm⟩
theorem Sub.Xm {l m n:List Chunk} (p:l.Perm m) (h:Sub m n):Sub l n:=fun w F hs=>h w F (zdb p hs)
theorem Sub.c1 {c a:Chunk} {l m:List Chunk} (h:Sub (a::l) m):Sub (a::c::l) (c::m):=.Xm (vI _ 1 c rfl) h.c0
theorem Sub.c2 {c a b:Chunk} {l m:List Chunk} (h:Sub (a::b::l) m):Sub (a::b::c::l) (c::m):=.Xm (vI _ 2 c rfl) h.c0
theorem Sub.c3 {c a b d:Chunk} {l m:List Chunk} (h:Sub (a::b::d::l) m):Sub (a::b::d::c::l) (c::m):=.Xm (vI _ 3 c rfl) h.c0
theorem Sub.c4 {c a b d e:Chunk} {l m:List Chunk} (h:Sub (a::b::d::e::l) m):Sub (a::b::d::e::c::l) (c::m):=.Xm (vI _ 4 c rfl) h.c0
theorem Sub.c5 {c a b d e f:Chunk} {l m:List Chunk} (h:Sub (a::b::d::e::f::l) m):Sub (a::b::d::e::f::c::l) (c::m):=.Xm (vI _ 5 c rfl) h.c0
theorem Sub.c6 {c a b d e f g:Chunk} {l m:List Chunk} (h:Sub (a::b::d::e::f::g::l) m):Sub (a::b::d::e::f::g::c::l) (c::m):=.Xm (vI _ 6 c rfl) h.c0
theorem At.sub {l m:List Chunk} {w:World} (h:Sub l m) (H:At w l):At w m:=by
 obtain⟨F,hF⟩:=H;obtain⟨G,_,hm⟩:=h w F hF;exact⟨G,hm⟩
section
variable {P:Program} {w:World} {ops:Array Oper} {rest:List Oper} {a:Act} {Q:Exit→Act→World→Prop} {dst:Option Tmp} {ty:TypeId} {pos:String} {af:Array Edge} {gd:Option (Nat × Bool)}
theorem XH {P:Program} {w:World} {T:TypeId} {d:TypeDesc} (hT:P.underlying T=some d) (hd:d.isRow=false):(isAgg T).run P w=.ok false w:=by
 unfold isAgg
 cases d<;>simp_all [run_underlying hT]
theorem zge {P:Program} {w:World} {T:TypeId} {d:TypeDesc} (hT:P.underlying T=some d) (hd:d.isRow=false) {p:Addr} {v:Value} (hc:w.cell? p=some v):
  (Instr.loadAt T (.pointer (some p))).run P w=.ok v w:=by
 simp only [Instr.loadAt,Instr.sureAddr,loadVar,Sem.run_bind,Sem.run_pure,Result.andThen_ok,XH hT hd,jd,if_false,run_load,hc]
theorem At.range {b:Nat} {T:TypeId} {cs:List Value} {l:List Chunk} {w:World} (H:At w (objC b T cs::l)) (i:Nat) (ds:List Value) (h: ∀ j v,ds[j]? =some v→cs[i+j]? =some v):w.rangeAt b i ds:=
 fun j v hj=>(H.cell (i+j)).trans (h j v hj)
theorem Rf {o:Oper} (hw:Region.wanted o (yielded ops a.tmps)=true) {w':World}
  (hr:(execOp a.eval o).run P w=.ok .skip w') (h:wpList P ops Q rest (a.put o.dst undef) w'):wpList P ops Q (o::rest) a w:=by
 refine BigFrame.wpList_want hw fun K hK=> ?_;unfold Oper.wp;rw [hr];exact hK _ _ h
theorem UU {P:Program} {w:World} {T:TypeId} (hs:(P.info? T).map (·.size)=some 1) {p:Addr} {u v:Value} (hv:v.cells= #[v]) (h1:v.oneCell'=true) (hc:w.cell? p=some u) (hf:w.frozen? p=false):
  (Instr.storeAt T (.pointer (some p)) v).run P w=.ok () (w.setCell p v):=by
 obtain⟨inf,hi,hz⟩: ∃ inf,P.info? T=some inf∧inf.size=1:=by
  cases h:P.info? T with
  |none=>simp [h] at hs
  |some inf=>exact⟨inf,rfl,by simpa [h] using hs⟩
 have ha:p.add 0=p:=by simp [Addr.add]
 have hst:=run_store P w p v .plain h1;rw [hc] at hst;simp only [hf,jd,if_false] at hst;simp only [Instr.storeAt,Instr.sureAddr,storeVar,Sem.run_bind,Sem.run_pure,Result.andThen_ok,sizeOf,typeInfo,hv]
 simp [hi,hz,storeCells,ha,hst]
theorem zC {T:TypeId} {x y:Operand} (hs:(P.info? T).map (·.size)=some 1) {b i:Nat} {B:TypeId} {cs:List Value} {l:List Chunk} (hx:a.eval x=.pointer (some ⟨b,i,none⟩)) {v:Value} (hy:a.eval y=v) (hv:v.cells= #[v]) (h1:v.oneCell'=true)
  (H:At w (objC b B cs::l)) (hi:i<cs.length) (hw:Region.wanted ⟨none,.store T x y,ty,pos,af,gd⟩ (yielded ops a.tmps)=true)
  (h: ∀ w',At w' (objC b B (cs.set i v)::l)→wpList P ops Q rest a w'):wpList P ops Q (⟨none,.store T x y,ty,pos,af,gd⟩::rest) a w:=by
 refine Rf hw (w':=w.setCell ⟨b,i,none⟩ v) ?_ (h _ (H.store i v));have:=UU (P:=P) hs hv h1 ((H.cell i).trans (ji hi)) (H.free i);simp only [execOp,hx,hy,Sem.run_bind,this,Result.andThen_ok,Sem.run_pure]
theorem At.ziP {E:TypeId} {v:Value} {n:Nat} {xs:List Value} {l:List Chunk} {w:World} {ao:Option Addr} {cap:Nat} (hv:v=.slice ao n cap) (H:At w (rowC E 1 v n xs::l)) (j:Nat) (hj:j<n) (u:Value):
  w.cell? (adr ao j)=xs[j]? ∧w.frozen? (adr ao j)=false∧At (w.setCell (adr ao j) u) (rowC E 1 v n (xs.set j u)::l):=by
 subst hv;have hrd:=H.rd;obtain⟨A,hA⟩:=H.head
 obtain⟨hF,hl,⟨he,rfl⟩|⟨g,cap',cur,fz,he,hg,hfree,hnc,hcm,hcs,ht⟩⟩:=hA
 · omega
 cases he
 have hjc:j<cur.size:=by omega
 have hj1:n * 1=n:=by omega
 refine⟨?_,?_,?_⟩
 · have hlt:j<xs.length:=by omega
   rw [ji hlt];exact hrd.cell hlt
 · have:=hfree.cell j hjc
   obtain⟨lo,hi⟩:=fz;simp only [adr,blk,ofs,World.frozen?,hg,Nat.zero_add,Bool.and_eq_false_iff,decide_eq_false_iff_not];simp only at this;omega
 · have hset:w.setCell (adr (some ⟨g,0,none⟩) j) u=w.setRow g (cur.setIfInBounds j u):=by
    have:=setCell_eq_setRow w g j cur E fz u hg
    simpa [adr,blk,ofs] using this
   rw [hset]
   refine H.step fun A hA=>⟨A,⟨hA.1,by simpa using hl,.inr ⟨g,cap,_,fz,rfl,setRow_heap w g cur _ E _ hg,by simpa using hfree,hnc,hcm,by simpa using hcs,?_⟩⟩,fun _ h=>.inl h,(yU w g _).mono fun k hk e=>hk.2 ((hA.1 k).2 (by simp [Value.ownBlock,e]))⟩
   rw [Array.toList_setIfInBounds,List.take_set,ht]
theorem At.mark {E size:Nat} {n cap:Nat} {ao:Option Addr} {xs:List Value} {l:List Chunk} {w:World} (h0:0<n) (H:At w (rowC E size (.slice ao n cap) n xs::l)):
  ∃ g cur,ao=some ⟨g,0,none⟩∧(∃ fz,w.heap[g]? =some (.cells cur E fz))∧At (w.freeze ⟨g,cur.size,none⟩ 1) (rowC E size (.slice ao n cap) n xs::l):=by
 obtain⟨A,hA⟩:=H.head
 obtain⟨hF,hl,⟨he,rfl⟩|⟨g,cap',cur,fz,he,hg,hfree,hnc,hcm,hcs,ht⟩⟩:=hA
 · omega
 cases he;refine⟨g,cur,rfl,⟨fz,hg⟩,?_⟩
 have hsz:(w.freeze ⟨g,cur.size,none⟩ 1).heap.size=w.heap.size:=by simp [World.freeze]
 have hnew:(w.freeze ⟨g,cur.size,none⟩ 1).heap[g]? =some (.cells cur E (if fz.1 == fz.2 then(cur.size,cur.size+1) else(min fz.1 cur.size,max fz.2 (cur.size+1)))):=by
  simp [World.freeze,Array.getElem?_modify,hg]
 have hold: ∀ k,k≠g→(w.freeze ⟨g,cur.size,none⟩ 1).heap[k]? =w.heap[k]? :=by
  intro k hk
  simp [World.freeze,Array.getElem?_modify,Ne.symm hk]
 refine H.step fun A hA=>⟨A,⟨hA.1,hl,.inr ⟨g,cap,cur,_,rfl,hnew,?_,hnc,hcm,hcs,ht⟩⟩,fun _ h=>.inl h,?_⟩
 · unfold Free at hfree ⊢
   split
   · exact .inr (jK _)
   · rename_i hne
     right
     have:fz.1≠fz.2:=by simpa using hne
     have:=hfree.resolve_left this;simp only [Nat.min_eq_right this];exact jK _
 · refine⟨rfl,rfl,rfl,by rw [hsz];exact jK _,fun k hk=>hold k fun e=>hk.2 ((hA.1 k).2 (by simp [Value.ownBlock,e]))⟩
theorem X0 (P:Program) (w:World) (t e g n cap:Nat) (cur:Array Value) (E:Nat) (fz:Nat × Nat) (ht:P.underlying t=some (.slice e)) (he:P.underlying e=some (.int .u8)) (hg:w.heap[g]? =some (.cells cur E fz)):
  (convert t t (.slice (some ⟨g,0,none⟩) n cap)).run P w=.ok (.slice (some ⟨g,0,none⟩) n cap) (w.freeze ⟨g,cur.size,none⟩ 1):=by
 have hsh:w.shape? g=some (E,cur.size):=by unfold World.shape?;rw [hg]
 simp [convert,run_underlying ht,run_underlying he,markStringish,hsh]
theorem zq {T:TypeId} {x y:Operand} (hs:(P.info? T).map (·.size)=some 1) {E:TypeId} {ao:Option Addr} {n cap j:Nat} {xs:List Value} {l:List Chunk} (hx:a.eval x=.pointer (some (adr ao j))) {v:Value} (hy:a.eval y=v) (hv:v.cells= #[v]) (h1:v.oneCell'=true)
  (H:At w (rowC E 1 (.slice ao n cap) n xs::l)) (hj:j<n) (hw:Region.wanted ⟨none,.store T x y,ty,pos,af,gd⟩ (yielded ops a.tmps)=true)
  (h: ∀ w',At w' (rowC E 1 (.slice ao n cap) n (xs.set j v)::l)→wpList P ops Q rest a w'):wpList P ops Q (⟨none,.store T x y,ty,pos,af,gd⟩::rest) a w:=by
 obtain⟨h2,h3,h4⟩:=H.ziP rfl j hj v;have hl:=H.rowLen;refine Rf hw (w':=w.setCell (adr ao j) v) ?_ (h _ h4)
 have:=UU (P:=P) hs hv h1 (h2.trans (ji (by omega))) h3
 simp only [execOp,hx,hy,Sem.run_bind,this,Result.andThen_ok,Sem.run_pure]
theorem zku {T:TypeId} {x:Operand} {l:List Chunk} {v:Value} (hx:a.eval x=v) (cs:List Value) (hv:v.cells=cs.toArray) (H:At w l) (hw:Region.wanted ⟨dst,.box T x,ty,pos,af,gd⟩ (yielded ops a.tmps)=true)
  (h: ∀ b w',At w' (objC b T cs::l)→wpList P ops Q rest (a.put dst (.pointer (some ⟨b,0,none⟩))) w'):wpList P ops Q (⟨dst,.box T x,ty,pos,af,gd⟩::rest) a w:=by
 refine zf hw (v:=.pointer (some ⟨w.heap.size,0,none⟩)) (w':=w.alloc (.cells cs.toArray T)) ?_ (h _ _ (H.Va cs T))
 simp [execOp,hx,Instr.box,newVar,newRow,hv]
theorem zfM {T:TypeId} {l:List Chunk} {i:TypeInfo} {z:Value} (hi:P.info? T=some i) (hz:i.zero=some z) (cs:List Value) (hv:z.cells=cs.toArray) (H:At w l) (hw:Region.wanted ⟨dst,.alloc T,ty,pos,af,gd⟩ (yielded ops a.tmps)=true)
  (h: ∀ b w',At w' (objC b T cs::l)→wpList P ops Q rest (a.put dst (.pointer (some ⟨b,0,none⟩))) w'):wpList P ops Q (⟨dst,.alloc T,ty,pos,af,gd⟩::rest) a w:=by
 refine zf hw (v:=.pointer (some ⟨w.heap.size,0,none⟩)) (w':=w.alloc (.cells cs.toArray T)) ?_ (h _ _ (H.Va cs T))
 simp [execOp,Instr.alloc,newVar,newRow,hv,zeroValue,typeInfo,hi,hz]
theorem vU (z:Value) (n:Nat):(madeCells #[z] n).toList=List.replicate n z:=by
 simp only [madeCells,Array.toList_map,Array.toList_range,List.size_toArray,je,jf,Nat.zero_add,Nat.mod_one]
 simp [List.map_const']
theorem ziM {T E:TypeId} {x y:Operand} {l:List Chunk} (ht:P.underlying T=some (.slice E)) {i:TypeInfo} {z:Value} {bytes:Nat} (hi:P.info? E=some i) (hz:i.zero=some z) (hsize:i.size=1) (hby:i.bytes=bytes) (hzc:z.cells= #[z]) (n:Nat) {k1 k2:IntKind} {m1 m2:Int}
  (hx:a.eval x=.int k1 m1) (hy:a.eval y=.int k2 m2) (e1:m1=n) (e2:m2=n) (hb:bytes * n≤281474976710656) (hm:n≤maxLen) (H:At w l)
  (hw:Region.wanted ⟨dst,.makeSlice T x y,ty,pos,af,gd⟩ (yielded ops a.tmps)=true)
  (h: ∀ v w',At w' (rowC E 1 v n (List.replicate n z)::l)→wpList P ops Q rest (a.put dst v) w'):wpList P ops Q (⟨dst,.makeSlice T x y,ty,pos,af,gd⟩::rest) a w:=by
 subst e1 e2 hby
 have hr := run_make (P := P) w T E i z ht hi hz k1 k2 n n (by omega) (Int.le_refl _) (by have:((i.bytes * n:Nat):Int)≤281474976710656:=by omega
                                                                                          rwa [Int.natCast_mul] at this) (by unfold maxLen at hm;omega)
 rw [hsize,Nat.mul_one,hzc] at hr
 have hA:=H.Zp E 1 n (madeCells #[z] n) (0,0) (by simp [size_madeCells]) hm (xA _)
 rw [vU] at hA;simp only [jI] at hr hA
 exact zf hw (by simp only [execOp,hx,hy,Sem.run_bind,hr,Result.andThen_ok,Sem.run_pure]) (h _ _ hA)
theorem UC {T E:TypeId} {n:Nat} {parts:Array (Nat × Operand)} {l:List Chunk} (size:Nat) {cs:List Value} (hlen:cs.length=n * size) (hm:n≤maxLen)
  (hr:(Instr.buildSlice T n (parts.map fun(i,x)=>(i,a.eval x))).run P w=.ok (.slice (some ⟨w.heap.size,0,none⟩) n n) (w.alloc (.cells cs.toArray E))) (H:At w l)
  (hw:Region.wanted ⟨dst,.buildSlice T n parts,ty,pos,af,gd⟩ (yielded ops a.tmps)=true)
  (h: ∀ v w',At w' (rowC E size v n cs::l)→wpList P ops Q rest (a.put dst v) w'):wpList P ops Q (⟨dst,.buildSlice T n parts,ty,pos,af,gd⟩::rest) a w:=by
 have hA:=H.Zp E size n cs.toArray (0,0) (by simpa using hlen) hm (xA _)
 exact zf hw (by simp only [execOp,Sem.run_bind,hr,Result.andThen_ok,Sem.run_pure]) (h _ _ hA)
theorem zbq: ∀ (vs:List Value) (k:Nat) (cells:Array Value),(∀ v ∈ vs,v.cells= #[v])→k+vs.length≤cells.size→
  Instr.fill (fun i=>some (i * 1,1)) cells (vs.zipIdx k |>.map fun p=>(p.2,p.1))=some (cells.toList.take k++vs++cells.toList.drop (k+vs.length)).toArray
 |[],k,cells,_,_=>by simp [Instr.fill]
 | v::vs,k,cells,h1,hk=>by
   have hv:=h1 v (by simp)
   have hk':k+1≤cells.size:=by simp at hk;omega
   have ih:=zbq vs (k+1) (cells.setIfInBounds k v) (fun u hu=>h1 u (by simp [hu])) (by simp at hk ⊢;omega)
   simp only [List.zipIdx_cons,List.map_cons,Instr.fill,hv]
   have c1: ¬ (((#[v]:Array Value).size≠1||k * 1+(#[v]:Array Value).size > cells.size)=true):=by simp;omega
   rw [if_neg c1]
   have e1:(Array.foldl (fun cs x=>match x with|(c,j)=>cs.setIfInBounds (k * 1+j) c) cells (#[v]:Array Value).zipIdx)=cells.setIfInBounds k v:=by simp
   rw [e1,ih]
   congr 2
   have e:=list_seg_step cells.toList k v vs (by simp at hk ⊢;omega)
   simpa [Array.toList_setIfInBounds,Nat.add_assoc] using e
theorem Vr {P:Program} {w:World} {T E:TypeId} (ht:P.underlying T=some (.slice E)) {i:TypeInfo} {z:Value} (hi:P.info? E=some i) (hz:i.zero=some z) (hsize:i.size=1) (vs:List Value) (h1: ∀ v ∈ vs,v.cells= #[v]) (hb:vs.length≤16777216):
  (Instr.buildSlice T vs.length (vs.zipIdx.map fun p=>(p.2,p.1)).toArray).run P w=.ok (.slice (some ⟨w.heap.size,0,none⟩) vs.length vs.length) (w.alloc (.cells vs.toArray E)):=by
 have hb': ¬ (16777216<vs.length):=by omega
 have hf: ∀ cells:Array Value,cells.size=vs.length→Instr.fill (fun i=>some (i * 1,1)) cells (vs.zipIdx.map fun p=>(p.2,p.1))=some vs.toArray:=by
  intro cells hc
  have:=zbq vs 0 cells h1 (by omega)
  rw [this]
  have hd:List.drop (0+vs.length) cells.toList=[]:=List.drop_eq_nil_of_le (by simp [hc])
  simp [hc]
 by_cases h0:vs.length=0
 · have e:vs=[]:=List.eq_nil_of_length_eq_zero h0
   subst e
   simp [Instr.buildSlice,run_underlying ht,sizeOf,typeInfo,hi,newRow,Instr.fill]
   congr 2
   apply Array.ext'
   simp
 · have hf':=hf ((Array.range vs.length).map (z.cells[· % z.cells.size]!)) (by simp)
   simp only [Instr.buildSlice,run_underlying ht,sizeOf,typeInfo,zeroValue,Sem.run_bind,Sem.run_pure,Result.andThen_ok];simp only [Nat.mul_one] at hf'
   simp [hi,hz,hsize,hb',h0,hf',newRow]
theorem zkt {T E:TypeId} {n:Nat} {parts:Array (Nat × Operand)} {l:List Chunk} (ht:P.underlying T=some (.slice E)) {i:TypeInfo} {z:Value} (hi:P.info? E=some i) (hz:i.zero=some z) (hsize:i.size=1)
  (vs:List Value) (hp:(parts.map fun(i,x)=>(i,a.eval x))=(vs.zipIdx.map fun p=>(p.2,p.1)).toArray) (hn:n=vs.length) (h1: ∀ v ∈ vs,v.cells= #[v]) (hb:vs.length≤16777216) (H:At w l)
  (hw:Region.wanted ⟨dst,.buildSlice T n parts,ty,pos,af,gd⟩ (yielded ops a.tmps)=true)
  (h: ∀ v w',At w' (rowC E 1 v n vs::l)→wpList P ops Q rest (a.put dst v) w'):wpList P ops Q (⟨dst,.buildSlice T n parts,ty,pos,af,gd⟩::rest) a w:=by
 subst hn
 exact UC 1 (by simp) (by unfold maxLen;omega) (by rw [hp];exact Vr ht hi hz hsize vs h1 hb) H hw h
theorem Rd.at_ {ao:Option Addr} {n cap j:Nat} {bs:List UInt8} {c:UInt8} (h:Rd w 1 (.slice ao n cap) n (bvs bs)) (hc:bs[j]? =some c):w.cell? (adr ao j)=some (.int .u8 (c.toNat:Int)):=by
 have hj:=(jh.1 hc).1
 have:=h.cell (j:=j) (by simpa using hj)
 rw [this]
 congr 1
 have h2:(bvs bs)[j]? =some (bv c):=by rw [bvs_getElem?,hc];rfl
 rw [ji (by simpa using hj)] at h2
 exact Option.some.inj h2
theorem Rd.lt {ao:Option Addr} {n cap j:Nat} {bs:List UInt8} {c:UInt8} (h:Rd w 1 (.slice ao n cap) n (bvs bs)) (hc:bs[j]? =some c):j<n:=by
 have h1:=(jh.1 hc).1;have h2:=h.len
 simp at h2
 omega
theorem Rd.sp {ao:Option Addr} {n cap j:Nat} {bs:List UInt8} {c:UInt8} (h:Rd w 1 (.slice ao n cap) n (bvs bs)) (hc:bs[j]? =some c): ∃ a,ao=some a∧a.spot=none:=
 h.spot (j:=j) (by simpa using (jh.1 hc).1)
theorem Rd.zmb {v:Value} {n:Nat} {bs:List UInt8} (h:Rd w 1 v n (bvs bs)):bs.length=n:=by simpa using h.len
theorem Rd.cat {ao:Option Addr} {n cap size j:Nat} {cs:List Value} {u:Value} (h:Rd w size (.slice ao n cap) n cs) (hc:cs[j]? =some u):w.cell? (adr ao j)=some u:=by
 have h1:=(jh.1 hc).1;rw [h.cell h1,← hc,ji h1]
theorem xP {s x:Operand} {t u E:TypeId} {l:List Chunk} {z:Value} {size bytes:Nat} (ht:P.underlying t=some (.slice E)) {ud:TypeDesc} (hu:P.underlying u=some ud) (hud: ∀ k,ud≠ .int k)
  (hinfo:(P.info? E).map (fun i=>(i.zero,i.size,i.bytes))=some (some z,size,bytes)) (hzs:z.cells.size=size)
  {ao:Option Addr} {n cap:Nat} {bs:List Value} (hs:a.eval s=.slice ao n cap) {xv:Value} {m:Nat} {cs:List Value} (hx:a.eval x=xv) (H:At w (rowC E size (.slice ao n cap) n bs::l)) (hsrc:Src P w size xv m cs)
  (h1: ∀ u ∈ cs,u.oneCell'=true) (h63:(n+m)≤1000000000) (hby:bytes≤100000)
  (hw:Region.wanted ⟨dst,.call { callee:=.builtin .append,args:= #[s,x],argTypes:= #[t,u]},ty,pos,af,gd⟩ (yielded ops a.tmps)=true)
  (h: ∀ ao' cap' w',n+m≤cap'→At w' (rowC E size (.slice ao' (n+m) cap') (n+m) (bs++cs)::l)→wpList P ops Q rest (a.put dst (.slice ao' (n+m) cap')) w'):
  wpList P ops Q (⟨dst,.call { callee:=.builtin .append,args:= #[s,x],argTypes:= #[t,u]},ty,pos,af,gd⟩::rest) a w:=by
 obtain⟨i0,hi,hz⟩:=Option.map_eq_some_iff.1 hinfo;simp only [Prod.mk.injEq] at hz;obtain⟨hz0,hz1,hz2⟩:=hz;have hmul:(n+m) * bytes≤1000000000 * 100000:=Nat.mul_le_mul h63 hby
 refine zeK s x t u E i0 z size bytes ht hu hud hi hz0 hz1 hz2 hzs _ n bs hs H xv m cs hx hsrc h1 (by unfold maxLen;omega) (by omega) hw ?_
 intro v' w' H';obtain⟨ao',cap',hv,hcap,_⟩:=H'.rd;subst hv;exact h _ _ _ hcap H'
theorem zM {T E:TypeId} {x y:Operand} {l:List Chunk} (ht:P.underlying T=some (.slice E)) {z:Value} {bytes:Nat} (hinfo:(P.info? E).map (fun i=>(i.zero,i.size,i.bytes))=some (some z,1,bytes)) (hzc:z.cells= #[z]) (n:Nat) {k1 k2:IntKind} {m1 m2:Int}
  (hx:a.eval x=.int k1 m1) (hy:a.eval y=.int k2 m2) (e1:m1=n) (e2:m2=n) (hb:bytes * n≤281474976710656) (hm:n≤maxLen) (H:At w l)
  (hw:Region.wanted ⟨dst,.makeSlice T x y,ty,pos,af,gd⟩ (yielded ops a.tmps)=true)
  (h: ∀ ao cap w',n≤cap→At w' (rowC E 1 (.slice ao n cap) n (List.replicate n z)::l)→wpList P ops Q rest (a.put dst (.slice ao n cap)) w'):wpList P ops Q (⟨dst,.makeSlice T x y,ty,pos,af,gd⟩::rest) a w:=by
 obtain⟨i0,hi,hz⟩:=Option.map_eq_some_iff.1 hinfo;simp only [Prod.mk.injEq] at hz;obtain⟨hz0,hz1,hz2⟩:=hz;refine ziM ht hi hz0 hz1 hz2 hzc n hx hy e1 e2 hb hm H hw ?_;intro v w' H';obtain⟨ao,cap,hv,hcap,_⟩:=H'.rd;subst hv;exact h _ _ _ hcap H'
theorem y5 {T E:TypeId} {n:Nat} {ps:List (Nat × Operand)} {l:List Chunk} (ht:P.underlying T=some (.slice E)) {z:Value} {bytes:Nat} (hinfo:(P.info? E).map (fun i=>(i.zero,i.size,i.bytes))=some (some z,1,bytes))
  (vs:List Value) (hp:(ps.map fun p=>(p.1,a.eval p.2))=vs.zipIdx.map fun p=>(p.2,p.1)) (hn:n=vs.length) (h1: ∀ v ∈ vs,v.cells= #[v]) (hb:vs.length≤16777216) (H:At w l)
  (hw:Region.wanted ⟨dst,.buildSlice T n ps.toArray,ty,pos,af,gd⟩ (yielded ops a.tmps)=true)
  (h: ∀ ao cap w',n≤cap→At w' (rowC E 1 (.slice ao n cap) n vs::l)→wpList P ops Q rest (a.put dst (.slice ao n cap)) w'):wpList P ops Q (⟨dst,.buildSlice T n ps.toArray,ty,pos,af,gd⟩::rest) a w:=by
 obtain⟨i0,hi,hz⟩:=Option.map_eq_some_iff.1 hinfo;simp only [Prod.mk.injEq] at hz;obtain⟨hz0,hz1,hz2⟩:=hz
 refine zkt ht hi hz0 hz1 vs (by rw [← hp];simp) hn h1 hb H hw ?_
 intro v w' H';obtain⟨ao,cap,hv,hcap,_⟩:=H'.rd;subst hv;exact h _ _ _ hcap H'
theorem xU {l:List Chunk} {src D E:TypeId} {x:Operand} {u:TypeDesc} (hs:P.underlying src=some u) (hd:P.underlying D=some (.slice E)) (he:P.underlying E=some (.int .u8)) {s:List UInt8} (hx:a.eval x=.string (S s)) (hm:s.length≤maxLen) (H:At w l)
  (hw:Region.wanted ⟨dst,.convert src D x,ty,pos,af,gd⟩ (yielded ops a.tmps)=true)
  (hk: ∀ ao cap w',s.length≤cap→At w' (rowC E 1 (.slice ao s.length cap) s.length (bvs s)::l)→wpList P ops Q rest (a.put dst (.slice ao s.length cap)) w'):wpList P ops Q (⟨dst,.convert src D x,ty,pos,af,gd⟩::rest) a w:=by
 refine zfL hs hd he hx (by simpa using hm) H hw ?_
 intro v w' H';simp only [ziG,Xc] at H';obtain⟨ao,cap,hv,hcap,_⟩:=H'.rd;subst hv;exact hk _ _ _ hcap H'
end
end Go.Sep
namespace Go.Sep
open Go
def calm (ρ:Operand→Value):Op→Bool
 |.nilCheck x=>match ρ x with|.pointer (some _)=>true|_=>false
 |.move _|.assign _|.pick .. |.load .. |.binOp .. |.unOp .. |.convert .. |.slice .. |.fieldAddr .. |.field .. |.indexAddr .. |.index .. |.extract .. |.build .. |.makeInterface .. =>true
 |.call c=>match c.callee with|.builtin .len|.builtin .cap|.builtin .min|.builtin .max=>true|_=>false
 |_=>false
theorem UN {P:Program} {w w':World} {s:Sem Value} {n:Next} (h:(do pure (.value (← s)):Sem Next).run P w=.ok n w'): ∃ u,n=.value u:=by
 simp only [Sem.run_bind] at h
 cases hs:s.run P w with
 |ok u w1=>rw [hs] at h;simp only [Result.andThen_ok,Sem.run_pure] at h;cases h;exact⟨u,rfl⟩
 |halt x w1=>rw [hs] at h;cases h
theorem zfB {P:Program} {w w':World} {ρ:Operand→Value} {o:Oper} {n:Next} (hc:calm ρ o.op=true) (h:(execOp ρ o).run P w=.ok n w'): ∃ u,n=.value u:=by
 unfold execOp at h
 cases ho:o.op<;>rw [ho] at hc h<;>simp only [calm,jd] at hc
 case move x=>cases h;exact⟨_,rfl⟩
 case assign x=>cases h;exact⟨_,rfl⟩
 case call c=>
  cases hcal:c.callee<;>simp only [hcal,jd] at hc
  case builtin b=>
   simp only [resolve,hcal,Sem.run_bind,Sem.run_pure,Result.andThen_ok,invoke] at h
   cases b<;>simp only [jd] at hc<;>exact UN h
 case nilCheck x=>
  cases hx:ρ x<;>simp only [hx,jd] at hc
  case pointer p=>
   cases p<;>simp only [jd] at hc
   simp only [hx] at h;cases h;exact⟨_,rfl⟩
 case pick c x y=>
  simp only [Sem.run_bind] at h
  cases hb:(asBool (ρ c)).run P w with
  |ok u w1=>rw [hb] at h;simp only [Result.andThen_ok,Sem.run_pure] at h;cases h;exact⟨_,rfl⟩
  |halt x w1=>rw [hb] at h;cases h
 all_goals exact UN h
section
variable {P:Program} {ops:Array Oper} {Q:Exit→Act→World→Prop} {S:World→Prop}
theorem zF {i:Nat} {o:Oper} {fuel:Nat} {listed:Array Bool} {a:Act} {w:World} (hi:ops[i]? =some o)
  (hs:Region.noSelect ops=true) (hf:Region.free .any ops listed i=true) (hr:(Region.ready .any ops listed).contains i=true)
  (hQ: ∀ v c a w,Q (.panic c) (a.put o.dst v) w→Q (.panic c) a w) (hS:S w) (hc:calm a.eval o.op=true) (hw:Region.wanted o (yielded ops a.tmps)=true)
  (h: ∀ K:Act→Prop,(∀ a',wpAnyH P .any ops Q S fuel (listed.setIfInBounds i true) a' w→K a')→o.quiet P a S K):wpAnyH P .any ops Q S (fuel+1) listed a w:=by
 obtain⟨v,hv,hk⟩:=h (fun a'=>wpAnyH P .any ops Q S fuel (listed.setIfInBounds i true) a' w) (fun _ h=>h);refine wpAnyH_take hi hs hf hr (hQ v) (.inl ⟨hw,fun w1 h1=> ?_⟩) hS hk;have h2:=hv w1 h1;unfold Oper.quietAt at h2
 cases hr:(execOp a.eval o).run P w1 with
 | ok n w2=>
   obtain⟨u,rfl⟩:=zfB hc hr;rw [hr] at h2;obtain⟨rfl,rfl⟩:=h2;rfl
 |halt x w2=>rw [hr] at h2;exact h2.elim
def zmg (P:Program) (ops:Array Oper) (Q:Exit→Act→World→Prop) (S:World→Prop) (fuel:Nat) (listed:Array Bool):Exit→Act→World→Prop
 |.normal,a,w=>S w∧wpAnyH P .any ops Q S fuel listed a w
 |.outgrown,_,_=>False
 |e,a,w=>Q e a w
theorem zk4 {i:Nat} {o:Oper} {fuel:Nat} {listed:Array Bool} {a:Act} {w:World} (hi:ops[i]? =some o)
  (h:wpList P ops (zmg P ops Q S fuel listed) [o] a w):wpOp P ops Q i (fun a' w'=>S w'∧wpAnyH P .any ops Q S fuel listed a' w') a w:=by
 unfold wpOp;simp only [hi];unfold wpList at h
 split
 · rename_i hw
   rw [if_pos hw] at h
   rcases h with h|⟨_,_,_,h⟩
   · refine .inl ?_
     unfold Oper.wp at *;generalize(execOp a.eval o).run P w=r at *
     cases r with
     | ok n w'=>
       cases n<;>simp only [Oper.upon] at h ⊢
       case value u=>exact h
       case skip=>exact h
       case defer d=>exact h
       case enter f args=>
        refine Calls.mono h fun e w'' he=> ?_
        cases e with
        |returned u=>exact he
        |panicked c=>exact he
        |outgrown=>obtain⟨_,_,h⟩:=he;exact h.elim
       case row row args=>exact Rows.mono h fun u w'' he=>he
     | halt x w'=>
       cases x<;>simp only [Oper.upon] at h ⊢
       case panic u=>exact h
   · exact h.elim
 · rename_i hw
   rw [if_neg hw] at h;exact h
theorem Y5 {i:Nat} {o:Oper} {fuel:Nat} {listed:Array Bool} {a:Act} {w:World} (hr:Region.ready .any ops listed=[i]) (hi:ops[i]? =some o)
  (h:wpList P ops (zmg P ops Q S fuel (listed.setIfInBounds i true)) [o] a w):wpAnyH P .any ops Q S (fuel+1) listed a w:=
 wpAnyH_all hr (by simp) fun j hj=>by
  simp only [List.mem_singleton] at hj;subst hj;exact zk4 hi h
theorem qO {id:Nat} {a:Act} {w:World} {l:List Oper} {L:List Chunk} (S:World→Prop) (hm:P.follows .mixedOrders=true) (H:At w L)
  (h: ∀ w1,At w1 L→wpAnyH P .any l.toArray Q S l.length (Array.replicate l.length false) a w1):(Code.region id l.toArray true).wp P Q a w:=
 wp_region_held hm (by simpa using h _ H.drew)
theorem zk {o:Oper} {a:Act} {K:Act→Prop} {v:Value} (hr: ∀ w,S w→(execOp a.eval o).run P w=.ok (.value v) w) (h:K (a.put o.dst v)):o.quiet P a S K:=
 ⟨v,fun w hw=>by unfold Oper.quietAt;rw [hr w hw];exact⟨rfl,rfl⟩,h⟩
end
def UJ (ops:List Oper) (j:Nat):List Nat:=
 match ops[j]? with
 |none=>[]
 |some o=>o.after.toList.filterMap fun e=>match Region.binds .any e with|true=>some e.on|false=>none
def xq (i:Nat):List Nat→Bool
 |[]=>false
 |j::r=>match Nat.beq j i with|true=>true|false=>xq i r
theorem sD {i:Nat}: ∀ {l:List Nat},xq i l=true→i ∈ l
 |[],h=>by cases h
 | j ::r,h=>by
   unfold xq at h
   split at h
   · rename_i hb
     rw [jH hb];exact List.mem_cons_self ..
   · exact List.mem_cons_of_mem _ (sD h)
def ZC (ops:List Oper):Nat→List Nat→List Nat→List Nat
 |0,_,acc=>acc
 |_+1,[],acc=>acc
 |f+1,j::r,acc=>match xq j acc with|true=>ZC ops f r acc|false=>ZC ops f (UJ ops j++r) (j::acc)
def zkM (ops:List Oper) (b:Nat):List Nat:=ZC ops 4000 (UJ ops b) []
def Clo (ops:List Oper) (listed:Array Bool):Prop:=listed.size=ops.length∧∀ j,listed.getD j false=true→∀ i ∈ UJ ops j,listed.getD i false=true
theorem zjW (ops:List Oper):Clo ops (Array.replicate ops.length false):=by
 refine⟨by simp,fun j h=> ?_⟩
 simp [Array.getD] at h
theorem Vu {ops:List Oper} {listed:Array Bool} {i:Nat} (hr:i ∈ Region.ready .any ops.toArray listed): ∀ j ∈ UJ ops i,listed.getD j false=true:=by
 intro j hj;obtain⟨_,o,ho,hall⟩:=mem_ready.1 hr;unfold UJ at hj
 rw [show ops[i]? =some o by simpa using ho] at hj
 simp only [List.mem_filterMap,Array.mem_toList_iff] at hj;obtain⟨e,he,hb⟩:=hj
 split at hb
 · rename_i hbi;cases hb;exact hall e he hbi
 · cases hb
theorem Ur {ops:List Oper} {listed:Array Bool} {i:Nat} (h:Clo ops listed) (hr:i ∈ Region.ready .any ops.toArray listed):Clo ops (listed.setIfInBounds i true):=by
 refine⟨by simp [h.1],fun j hj k hk=>getD_set_true ?_⟩
 by_cases hij:i=j
 · subst hij;exact Vu hr k hk
 · exact h.2 j (by rwa [getD_set_ne false hij] at hj) k hk
theorem uZ {ops:List Oper} {listed:Array Bool} (h:Clo ops listed): ∀ (f:Nat) (todo acc:List Nat),(∀ j ∈ todo,listed.getD j false=true)→(∀ j ∈ acc,listed.getD j false=true)→∀ i ∈ ZC ops f todo acc,listed.getD i false=true
 |0,_,_,_,h2,i,hi=>h2 i hi
 |_+1,[],_,_,h2,i,hi=>h2 i hi
 | f + 1,j::r,acc,h1,h2,i,hi=>by
   unfold ZC at hi
   split at hi
   · exact uZ h f r acc (fun k hk=>h1 k (List.mem_cons_of_mem _ hk)) h2 i hi
   · refine uZ h f (UJ ops j++r) (j::acc) (fun k hk=> ?_) (fun k hk=> ?_) i hi
     · rcases List.mem_append.1 hk with hk|hk
       · exact h.2 j (h1 j (List.mem_cons_self ..)) k hk
       · exact h1 k (List.mem_cons_of_mem _ hk)
     · rcases List.mem_cons.1 hk with rfl|hk
       · exact h1 _ (List.mem_cons_self ..)
       · exact h2 k hk
def Before (ops:List Oper) (b i:Nat):Prop:=b≠i∧∀ listed,Clo ops listed→(b ∈ Region.ready .any ops.toArray listed∨listed.getD b false=true)→listed.getD i false=true
theorem zfF {ops:List Oper} {b i:Nat} (hb:ops.length≤b) (hi:i<ops.length):Before ops b i:=by
 refine⟨by omega,fun listed hc h=> ?_⟩
 rcases h with h|h
 · obtain⟨_,o,ho,_⟩:=mem_ready.1 h
   have:=(Array.getElem?_eq_some_iff.1 ho).1
   simp at this;omega
 · have h1:=hc.1
   rw [Array.getD_eq_getD_getElem?,Array.getElem?_eq_none (by omega)] at h
   cases h
theorem zbC {ops:List Oper} {b i:Nat} (hne:b≠i) (h:i ∈ zkM ops b):Before ops b i:=
 ⟨hne,fun listed hc hb=>uZ hc _ _ _ (by rcases hb with hb|hb;exact Vu hb;exact hc.2 b hb) (fun _ h=>by cases h) i h⟩
section
variable {P:Program} {ops:List Oper} {Q:Exit→Act→World→Prop} {S:World→Prop}
def Ve (P:Program) (ops:List Oper) (Q:Exit→Act→World→Prop) (S:World→Prop) (b:Nat):Nat→Array Bool→Act→World→Prop
 |0,listed,a,w=>wpAny P .any ops.toArray Q 0 listed a w
 | fuel+1,listed,a,w=>
   (listed.getD b false=true→wpAny P .any ops.toArray Q (fuel+1) listed a w)∧
   (listed.getD b false=false→(Region.ready .any ops.toArray listed=[]→Q .normal a w)∧
    ∀ i ∈ Region.ready .any ops.toArray listed,wpOp P ops.toArray Q i (fun a' w'=>S w'∧Ve P ops Q S b fuel (listed.setIfInBounds i true) a' w') a w)
theorem UL {b:Nat}: ∀ (fuel:Nat) (listed:Array Bool) (a:Act) (w:World),Ve P ops Q S b fuel listed a w→wpAny P .any ops.toArray Q fuel listed a w
 |0,_,_,_,h=>h
 | fuel+1,listed,_,_,h=>by
   cases hb:listed.getD b false with
   |true=>exact h.1 hb
   |false=>exact⟨(h.2 hb).1,fun i hi=>wpOp_mono (fun a' w' h'=>UL fuel _ a' w' h'.2) ((h.2 hb).2 i hi)⟩
theorem zfG {b i:Nat} {oi:Oper} {v:Value} (hi:ops.toArray[i]? =some oi) (hsel: ∀ (j:Nat) (o:Oper) cs b,ops.toArray[j]? =some o→o.op≠ .select cs b)
  (hQ: ∀ c a w,Q (.panic c) (a.put oi.dst v) w→Q (.panic c) a w) (hb:Before ops b i):
  ∀ (fuel:Nat) (listed:Array Bool) (a:Act) (w:World),Clo ops listed→
    (∀ j oj,ops.toArray[j]? =some oj→j≠i→listed.getD j true=false→(∀ e ∈ oj.after,Region.binds .any e=true→e.on≠i)→oi.apart ops.toArray oj=true)→
    i ∈ Region.ready .any ops.toArray listed→YieldsIf P ops.toArray S oi v a→S w→
    Ve P ops Q S b fuel (listed.setIfInBounds i true) (a.put oi.dst v) w→Ve P ops Q S b (fuel+1) listed a w:=by
 have hun: ∀ {listed:Array Bool},i ∈ Region.ready .any ops.toArray listed→Clo ops listed→listed.getD i false=false:=fun {listed} hr hc=>by
  have h0:=(mem_ready.1 hr).1;rw [Array.getD_eq_getD_getElem?] at h0 ⊢
  cases h:listed[i]? with
  |none=>rfl
  |some x=>rw [h] at h0;simpa using h0
 intro fuel
 induction fuel with
 | zero=>
   intro listed a w hc _ hr hy hS H
   refine⟨fun h=> ?_,fun _=>⟨fun h=>(by rw [h] at hr;cases hr),fun j hj=> ?_⟩⟩
   · have:=hb.2 listed hc (.inr h);rw [hun hr hc] at this;cases this
   by_cases hji:j=i
   · subst hji;exact hy.wpOp hi hS ⟨hS,H⟩
   · have:=ready_mono hj hji
     rw [H.1] at this;cases this
 | succ fuel ih=>
   intro listed a w hc hfree hr hy hS H
   refine⟨fun h=> ?_,fun hbl=>⟨fun h=>(by rw [h] at hr;cases hr),fun j hj=> ?_⟩⟩
   · have:=hb.2 listed hc (.inr h);rw [hun hr hc] at this;cases this
   by_cases hji:j=i
   · subst hji;exact hy.wpOp hi hS ⟨hS,H⟩
   · have hbl':(listed.setIfInBounds i true).getD b false=false:=by rw [getD_set_ne false (Ne.symm hb.1)];exact hbl
     have h1:=(H.2 hbl').2 j (ready_mono hj hji);obtain⟨hjun,oj,hoj,hall⟩:=mem_ready.1 hj
     have hnot: ∀ e ∈ oj.after,Region.binds .any e=true→e.on≠i:=fun e he hb heq=>by
      have h1:=hall e he hb;rw [heq,hun hr hc] at h1;cases h1
     have h2:=wpOp_putIf hoj (hfree j oj hoj hji hjun hnot) (fun cs b=>hsel i oi cs b hi) (fun cs b=>hsel j oj cs b hoj) hQ hy h1
     have hfree': ∀ k ok,ops.toArray[k]? =some ok→k≠i→(listed.setIfInBounds j true).getD k true=false→
       (∀ e ∈ ok.after,Region.binds .any e=true→e.on≠i)→oi.apart ops.toArray ok=true:=fun k ok hk hki hun hno=>by
      refine hfree k ok hk hki ?_ hno
      by_cases hjk:j=k
      · subst hjk;exact hjun
      · rw [getD_set_ne true hjk] at hun;exact hun
     refine wpOp_mono (fun a' w' h3=>⟨h3.2.1,ih (listed.setIfInBounds j true) a' w' (Ur hc hj) hfree' (ready_mono hr (Ne.symm hji)) h3.1 h3.2.1 ?_⟩) h2;rw [Array.setIfInBounds_comm _ _ hji];exact h3.2.2
theorem zbI {b i:Nat} {oi:Oper} {v:Value} {fuel:Nat} {listed:Array Bool} {a:Act} {w:World} (hi:ops.toArray[i]? =some oi) (hb:Before ops b i) (hc:Clo ops listed)
  (hs:Region.noSelect ops.toArray=true) (hf:Region.free .any ops.toArray listed i=true) (hr:i ∈ Region.ready .any ops.toArray listed)
  (hQ: ∀ c a w,Q (.panic c) (a.put oi.dst v) w→Q (.panic c) a w) (hy:YieldsIf P ops.toArray S oi v a) (hS:S w)
  (h:Ve P ops Q S b fuel (listed.setIfInBounds i true) (a.put oi.dst v) w):Ve P ops Q S b (fuel+1) listed a w:=
 zfG hi (Region.noSelect_spec hs) hQ hb fuel listed a w hc (Region.free_spec hi hf) hr hy hS h
end
end Go.Sep
namespace Go.Sep
open Go
section
variable {P:Program} {w:World} {ops:Array Oper} {a:Act} {dst:Option Tmp} {ty:TypeId} {pos:String} {af:Array Edge} {gd:Option (Nat × Bool)}
theorem zh {T:TypeId} {x:Operand} {d:TypeDesc} (hT:P.underlying T=some d) (hd:d.isRow=false) {p:Addr} {v:Value} (hx:a.eval x=.pointer (some p)) (hc:w.cell? p=some v):
  (execOp a.eval ⟨dst,.load T x,ty,pos,af,gd⟩).run P w=.ok (.value v) w:=by
 simp only [execOp,hx,Sem.run_bind,zge hT hd hc,Result.andThen_ok,Sem.run_pure]
theorem zjS {T:TypeId} {x:Operand} {d:TypeDesc} (hT:P.underlying T=some d) (hd:d.isRow=true) {b o:Nat} {cs:List Value} (hi:(P.info? T).map (·.size)=some cs.length)
  (hx:a.eval x=.pointer (some ⟨b,o,none⟩)) (hc:w.rangeAt b o cs):(execOp a.eval ⟨dst,.load T x,ty,pos,af,gd⟩).run P w=.ok (.value (.agg cs.toArray)) w:=by
 simp only [execOp,hx,Sem.run_bind,run_loadAt_mid w b o T cs d hc hT hd hi,Result.andThen_ok,Sem.run_pure]
theorem Qy {T E size:Nat} {x ix:Operand} (ht:P.underlying T=some (.slice E)) (hs:(P.info? E).map (·.size)=some size) (j:Nat) {ao:Option Addr} {n cap:Nat} {k:IntKind} {i:Int} (hx:a.eval x=.slice ao n cap) (hi:a.eval ix=.int k i)
  (hij:i=j) (h1:j<n) (hsp: ∃ a,ao=some a∧a.spot=none):(execOp a.eval ⟨dst,.indexAddr T x ix,ty,pos,af,gd⟩).run P w=.ok (.value (.pointer (some (adr ao (j * size))))) w:=by
 subst hij
 have:=run_indexAt (w:=w) ht hs ao n cap k (j:Int) (by omega) (by omega) hsp
 simp only [execOp,hx,hi,Sem.run_bind,this,Result.andThen_ok,Sem.run_pure,jI]
theorem zB {T E:TypeId} {x ix:Operand} (ht:P.underlying T=some (.slice E)) (hs:(P.info? E).map (·.size)=some 1) {ao:Option Addr} {n cap:Nat} {k:IntKind} {i:Int} {bs:List UInt8} {j:Nat} {c:UInt8} (hc:bs[j]? =some c)
  (hx:a.eval x=.slice ao n cap) (hi:a.eval ix=.int k i) (hr:Rd w 1 (.slice ao n cap) n (bvs bs)) (hij:i=j):
  (execOp a.eval ⟨dst,.indexAddr T x ix,ty,pos,af,gd⟩).run P w=.ok (.value (.pointer (some (adr ao j)))) w:=by
 have:=Qy (w:=w) (dst:=dst) (ty:=ty) (pos:=pos) (af:=af) (gd:=gd) ht hs j hx hi hij (hr.lt hc) (hr.sp hc)
 rwa [Nat.mul_one] at this
theorem zy {T E:TypeId} {x ix:Operand} (ht:P.underlying T=some (.slice E)) (hs:(P.info? E).map (·.size)=some 1) {ao:Option Addr} {n cap:Nat} {k:IntKind} {i:Int} {cs:List Value} {j:Nat} {u:Value} (hc:cs[j]? =some u)
  (hx:a.eval x=.slice ao n cap) (hi:a.eval ix=.int k i) (hr:Rd w 1 (.slice ao n cap) n cs) (hij:i=j):
  (execOp a.eval ⟨dst,.indexAddr T x ix,ty,pos,af,gd⟩).run P w=.ok (.value (.pointer (some (adr ao j)))) w:=by
 have h1:=(jh.1 hc).1;have h2:=hr.len
 have:=Qy (w:=w) (dst:=dst) (ty:=ty) (pos:=pos) (af:=af) (gd:=gd) ht hs j hx hi hij (by omega) (hr.spot h1)
 rwa [Nat.mul_one] at this
theorem zL {src D E:TypeId} {x:Operand} (hs:P.underlying src=some (.slice E)) (he:P.underlying E=some (.int .u8)) (hd:P.underlying D=some .string) {v:Value} {n:Nat} {bs:List UInt8} (hx:a.eval x=v) (h:Rd w 1 v n (bvs bs)):
  (execOp a.eval ⟨dst,.convert src D x,ty,pos,af,gd⟩).run P w=.ok (.value (.string (S bs))) w:=by
 simp only [execOp,hx,Sem.run_bind,Rx hs he hd h,Result.andThen_ok,Sem.run_pure]
theorem zu {T:TypeId} {x ix:Operand} (ht:P.underlying T=some .string) {l:List UInt8} {j:Nat} {c:UInt8} (hc:l[j]? =some c) {k:IntKind} {i:Int} (hx:a.eval x=.string (S l)) (hi:a.eval ix=.int k i) (hij:i=j):
  (execOp a.eval ⟨dst,.index T x ix,ty,pos,af,gd⟩).run P w=.ok (.value (.int .u8 (c.toNat:Int))) w:=by
 subst hij;simp only [execOp,hx,hi,Sem.run_bind,zak ht l k j c hc,Result.andThen_ok,Sem.run_pure];rfl
theorem zhZ {T:TypeId} {x:Operand} {lo hi:Option Operand} (ht:P.underlying T=some .string) {l:List UInt8} (m h:Nat) (hx:a.eval x=.string (S l))
  (hlo:(lo.map a.eval=none∧m=0)∨∃ k i,lo.map a.eval=some (.int k i)∧i=m) (hhi:(hi.map a.eval=none∧h=l.length)∨∃ k i,hi.map a.eval=some (.int k i)∧i=h) (hlh:m≤h) (hn:h≤l.length):
  (execOp a.eval ⟨dst,.slice T x lo hi none,ty,pos,af,gd⟩).run P w=.ok (.value (.string (S ((l.drop m).take (h - m))))) w:=by
 have hlh':(m:Int)≤h:=by omega
 have hn':(h:Int)≤l.length:=by omega
 rcases hlo with⟨e1,rfl⟩|⟨k,i,e1,rfl⟩<;>rcases hhi with⟨e2,rfl⟩|⟨k',i',e2,rfl⟩<;>
  simp [execOp,hx,e1,e2,Instr.sliceAt,Instr.slice,Instr.sliceBounds,Instr.sliceBound,asIntOf,run_underlying ht,hlh,hn,ziH]
theorem zeo {T E size:Nat} {x:Operand} {lo hi:Option Operand} (ht:P.underlying T=some (.slice E)) (hs:(P.info? E).map (·.size)=some size) {ao:Option Addr} {n cap:Nat} (l h:Nat) (hcap:n≤cap) (hx:a.eval x=.slice ao n cap)
  (hlo:(lo.map a.eval=none∧l=0)∨∃ k i,lo.map a.eval=some (.int k i)∧i=l) (hhi:(hi.map a.eval=none∧h=n)∨∃ k i,hi.map a.eval=some (.int k i)∧i=h) (hlh:l≤h) (hn:h≤n):
  (execOp a.eval ⟨dst,.slice T x lo hi none,ty,pos,af,gd⟩).run P w=.ok (.value (sub (.slice ao n cap) size l h)) w:=by
 have h1:(lo.map a.eval=none∧l=0)∨∃ k,lo.map a.eval=some (.int k l):=by
  rcases hlo with h|⟨k,i,e,rfl⟩
  · exact .inl h
  · exact .inr ⟨k,e⟩
 have h2:(hi.map a.eval=none∧h=n)∨∃ k,hi.map a.eval=some (.int k h):=by
  rcases hhi with h|⟨k,i,e,rfl⟩
  · exact .inl h
  · exact .inr ⟨k,e⟩
 simp only [execOp,hx,Option.map_none,Sem.run_bind,Vq ht hs ao n cap l h hcap h1 h2 hlh hn,Result.andThen_ok,Sem.run_pure]
theorem yY {T E:TypeId} {x y:Operand} {u:TypeId} (ht:P.underlying T=some (.slice E)) {b:Addr} {n cap:Nat} (hx:a.eval x=.slice (some b) n cap) (hy:a.eval y=.slice none 0 0):
  (execOp a.eval ⟨dst,.binOp .eql T x y u,ty,pos,af,gd⟩).run P w=.ok (.value (.bool false)) w:=by
 simp [execOp,hx,hy,eqGuard,Lib.run_eql_slice_nil w T E _ _ _ _ _ ht]
theorem yZ {T E:TypeId} {x y:Operand} {u:TypeId} (ht:P.underlying T=some (.slice E)) {n cap:Nat} (hx:a.eval x=.slice none n cap) (hy:a.eval y=.slice none 0 0):
  (execOp a.eval ⟨dst,.binOp .eql T x y u,ty,pos,af,gd⟩).run P w=.ok (.value (.bool true)) w:=by
 simp [execOp,hx,hy,eqGuard,Lib.run_eql_slice_nil w T E _ _ _ _ _ ht]
theorem yK {v0:Value} (h0:v0.cells= #[v0]): ∀ v ∈ ([v0]:List Value),v.cells= #[v]:=by
 intro v hv
 simp at hv
 rw [hv];exact h0
theorem SV {v0 v1 v2 v3:Value} (h0:v0.cells= #[v0]) (h1:v1.cells= #[v1]) (h2:v2.cells= #[v2]) (h3:v3.cells= #[v3]): ∀ v ∈ ([v0,v1,v2,v3]:List Value),v.cells= #[v]:=by
 intro v hv
 simp at hv
 rcases hv with rfl|rfl|rfl|rfl
 · exact h0
 · exact h1
 · exact h2
 · exact h3
theorem zmM {P:Program} {w:World} (l:List UInt8):Src P w 1 (.string (S l)) l.length (bvs l):=by simpa using zeR (P:=P) (w:=w) (S l)
end
end Go.Sep
namespace Go.Ab
open Go Go.Sep
abbrev Str:=List UInt8
structure Fld where (name value:Str)
 deriving DecidableEq
structure Hd where (method target:Str) (minor:Int) (fields:List Fld) (length:Int)
 deriving DecidableEq
structure Prt where (name file type bytes:Str)
 deriving DecidableEq
structure Evt where (kind:Int) (head:Hd) (bytes:Str) (part:Prt) (code:Int)
 deriving DecidableEq
structure Upl where (id size:Int) (note bytes:Str) (sent:Int)
 deriving DecidableEq
structure Ent where (kind id n:Int) (text:Str)
 deriving DecidableEq
structure Stp where (kind conn n:Int) (bytes:Str)
 deriving DecidableEq
structure Ask where (h:Hd) (body:Str)
 deriving DecidableEq
structure Cal where (conn:Int) (gone:Bool) (b:Str)
 deriving DecidableEq
structure Tri where (code:Int) (bytes up:Str)
 deriving DecidableEq
structure Lst where (op n:Int) (b:Str)
 deriving DecidableEq
structure Sst where (op id n:Int) (text:Str)
 deriving DecidableEq
structure Rpl where (status:Int) (fields:List Fld) (body:Str)
 deriving DecidableEq
structure Med where (word:Str) (params:List Fld)
 deriving DecidableEq
inductive U where
 |byte|int|str|fld|bytes|hd|prt|evt|upl|ent|stp|ask|cal|tri|lst|sst|upls|strs|rpl|med|prw
 deriving DecidableEq
@[reducible] def U.den:U→Type
  |.byte=>UInt8|.int=>Int|.str=>Str|.fld=>Fld|.bytes=>Str|.hd=>Hd|.prt=>Prt|.evt=>Evt|.upl=>Upl
  |.ent=>Ent|.stp=>Stp|.ask=>Ask|.cal=>Cal|.tri=>Tri|.lst=>Lst|.sst=>Sst|.upls=>List Upl|.strs=>List Str|.rpl=>Rpl|.med=>Med|.prw=>Prt
def U.size:U→Nat
 |.byte=>1|.int=>1|.str=>1|.fld=>2|.bytes=>1|.hd=>5|.prt=>4|.evt=>12|.upl=>5
 |.ent=>4|.stp=>4|.ask=>6|.cal=>3|.tri=>3|.lst=>3|.sst=>4|.upls=>1|.strs=>1|.rpl=>3|.med=>2|.prw=>4
structure Alg where
 b2i:UInt8→Int
 i2b:Int→UInt8
 add:Int→Int→Int
 sub:Int→Int→Int
 mul:Int→Int→Int
 quo:Int→Int→Int
 rem:Int→Int→Int
 bits:BinOp→IntKind→Int→Int→Int
 shl:IntKind→Int→Int→Int
 shr:Int→Int→Int
 wrap:IntKind→Int→Int
 imin:Int→Int→Int
 imax:Int→Int→Int
 ilt:Int→Int→Bool
 ile:Int→Int→Bool
 ieq:Int→Int→Bool
 bnot:Bool→Bool
 beq:Bool→Bool→Bool
 ban:Bool→Bool→Bool
 seq:Str→Str→Bool
 len: {α:Type}→List α→Int
 app: {α:Type}→List α→List α→List α
 cut: {α:Type}→List α→Int→Int→List α
 get: {α:Type}→List α→α→Int→α
 set: {α:Type}→List α→Int→α→List α
 rep: {α:Type}→Int→α→List α
 inr:IntKind→Int→Prop
 inb:Int→Int→Prop
 cutb:Int→Int→Int→Prop
 same: {α:Type}→α→α→Prop
 few:Int→Int→Prop
 nne:Int→Prop
 nng:Int→Prop
 hid: {α:Type}→α→α
def alg:Alg where
 b2i c:=(c.toNat:Int)
 i2b n:=UInt8.ofNat n.toNat
 add x y:=x+y
 sub x y:=x - y
 mul x y:=x * y
 quo x y:=x.tdiv y
 rem x y:=x.tmod y
 bits op k x y:=k.wrap (match op with
  |.and=>(BitVec.ofInt k.bits x&&& BitVec.ofInt k.bits y).toNat
  |.or=>(BitVec.ofInt k.bits x|||BitVec.ofInt k.bits y).toNat
  |_=>(BitVec.ofInt k.bits x ^^^ BitVec.ofInt k.bits y).toNat:Nat)
 shl k x y:=k.wrap (x * 2 ^ (min y.toNat k.bits))
 shr x y:=x.fdiv (2 ^ (min y.toNat 64))
 wrap k n:=k.wrap n
 imin x y:=if x≤y then x else y
 imax x y:=if x≤y then y else x
 ilt x y:=decide (x<y)
 ile x y:=decide (x≤y)
 ieq x y:=x == y
 bnot b:= !b
 beq a b:=a == b
 ban a b:=a&&b
 seq x y:=x == y
 len l:=(l.length:Int)
 app x y:=x++y
 cut l a b:=(l.drop a.toNat).take (b.toNat - a.toNat)
 get l d i:=l.getD i.toNat d
 set l i x:=l.set i.toNat x
 rep n x:=List.replicate n.toNat x
 inr k n:=k.min≤n∧n≤k.max
 inb i n:=0≤i∧i<n
 cutb l h n:=0≤l∧l≤h∧h≤n
 same x y:=x=y
 few n m:=n≤m
 nne n:=n≠0
 nng n:=0≤n
 hid x:=x
inductive P where
 |int (k:IntKind) (n:Int)
 |bool (b:Bool)
 |str (l:Str)
 |list (u:U) (l:List u.den)
 |nl (l:Str)
 |val (v:Value)
def zh8 (f:Fld):List P:=[.str f.name,.str f.value]
def zjV (h:Hd):List P:=[.str h.method,.str h.target,.int .i64 h.minor,.list .fld h.fields,.int .i64 h.length]
def zh7 (p:Prt):List P:=[.str p.name,.str p.file,.str p.type,.nl p.bytes]
def zkn (x:Upl):List P:=[.int .i64 x.id,.int .i64 x.size,.str x.note,.list .byte x.bytes,.int .i64 x.sent]
def enc (I:Alg):(u:U)→u.den→List P
 |.byte,c=>[.int .u8 (I.b2i c)]
 |.int,n=>[.int .i64 n]
 |.str,s=>[.str s]
 |.fld,(f:Fld)=>zh8 f
 |.bytes,(b:Str)=>[.list .byte b]
 |.hd,(h:Hd)=>zjV h
 |.prt,(p:Prt)=>zh7 p
 |.evt,(e:Evt)=>.int .i64 e.kind::(zjV e.head++ .list .byte e.bytes::(zh7 e.part++[.int .i64 e.code]))
 |.upl,(x:Upl)=>zkn x
 |.ent,(x:Ent)=>[.int .i64 x.kind,.int .i64 x.id,.int .i64 x.n,.list .byte x.text]
 |.stp,(x:Stp)=>[.int .i64 x.kind,.int .i64 x.conn,.int .i64 x.n,.list .byte x.bytes]
 |.ask,(x:Ask)=>zjV x.h++[.list .byte x.body]
 |.cal,(x:Cal)=>[.int .i64 x.conn,.bool x.gone,.list .byte x.b]
 |.tri,(x:Tri)=>[.int .i64 x.code,.list .byte x.bytes,.list .byte x.up]
 |.lst,(x:Lst)=>[.int .i64 x.op,.int .i64 x.n,.list .byte x.b]
 |.sst,(x:Sst)=>[.int .i64 x.op,.int .i64 x.id,.int .i64 x.n,.str x.text]
 |.upls,(l:List Upl)=>[.list .upl l]
 |.strs,(l:List Str)=>[.list .str l]
 |.rpl,(x:Rpl)=>[.int .i64 x.status,.list .fld x.fields,.list .byte x.body]
 |.med,(x:Med)=>[.str x.word,.list .fld x.params]
 |.prw,(p:Prt)=>[.str p.name,.str p.file,.str p.type,.list .byte p.bytes]
theorem yJ (I:Alg) (u:U) (x:u.den):(enc I u x).length=u.size:=by
 cases u<;>simp [enc,U.size,zh8,zjV,zh7,zkn]
def dflt:(u:U)→u.den
 |.byte=>(0:UInt8)|.int=>(0:Int)|.str=>([]:Str)|.fld=>⟨[],[]⟩|.bytes=>([]:Str)|.hd=>⟨[],[],0,[],0⟩|.prt=>⟨[],[],[],[]⟩
 |.evt=>⟨0,⟨[],[],0,[],0⟩,[],⟨[],[],[],[]⟩,0⟩|.upl=>⟨0,0,[],[],0⟩|.ent=>⟨0,0,0,[]⟩|.stp=>⟨0,0,0,[]⟩|.ask=>⟨⟨[],[],0,[],0⟩,[]⟩
 |.cal=>⟨0,false,[]⟩|.tri=>⟨0,[],[]⟩|.lst=>⟨0,0,[]⟩|.sst=>⟨0,0,0,[]⟩|.upls=>([]:List Upl)|.strs=>([]:List Str)|.rpl=>⟨0,[],[]⟩|.med=>⟨[],[]⟩|.prw=>⟨[],[],[],[]⟩
def dec (I:Alg) (u:U) (cs:List P):Option u.den:=
 match u,cs with
 |.byte,[.int .u8 n]=>some (I.i2b n)
 |.int,[.int .i64 n]=>some n
 |.str,[.str s]=>some s
 |.fld,[.str a,.str b]=>some (⟨a,b⟩:Fld)
 |.bytes,[.list .byte b]=>some b
 |.hd,[.str a,.str b,.int .i64 m,.list .fld f,.int .i64 n]=>some (⟨a,b,m,f,n⟩:Hd)
 |.prt,[.str a,.str b,.str c,.nl d]=>some (⟨a,b,c,d⟩:Prt)
 |.prt,[.str a,.str b,.str c,.list .byte d]=>some (⟨a,b,c,d⟩:Prt)
 |.evt,[.int .i64 k,.str a,.str b,.int .i64 m,.list .fld f,.int .i64 n,.list .byte bs,.str x,.str y,.str z,.nl t,.int .i64 c]=>some (⟨k,⟨a,b,m,f,n⟩,bs,⟨x,y,z,t⟩,c⟩:Evt)
 |.upl,[.int .i64 a,.int .i64 b,.str c,.list .byte d,.int .i64 e]=>some (⟨a,b,c,d,e⟩:Upl)
 |.ent,[.int .i64 a,.int .i64 b,.int .i64 c,.list .byte d]=>some (⟨a,b,c,d⟩:Ent)
 |.stp,[.int .i64 a,.int .i64 b,.int .i64 c,.list .byte d]=>some (⟨a,b,c,d⟩:Stp)
 |.ask,[.str a,.str b,.int .i64 m,.list .fld f,.int .i64 n,.list .byte t]=>some (⟨⟨a,b,m,f,n⟩,t⟩:Ask)
 |.cal,[.int .i64 a,.bool b,.list .byte c]=>some (⟨a,b,c⟩:Cal)
 |.tri,[.int .i64 a,.list .byte b,.list .byte c]=>some (⟨a,b,c⟩:Tri)
 |.lst,[.int .i64 a,.int .i64 b,.list .byte c]=>some (⟨a,b,c⟩:Lst)
 |.sst,[.int .i64 a,.int .i64 b,.int .i64 c,.str d]=>some (⟨a,b,c,d⟩:Sst)
 |.upls,[.list .upl l]=>some l
 |.strs,[.list .str l]=>some l
 |.rpl,[.int .i64 a,.list .fld f,.list .byte b]=>some (⟨a,f,b⟩:Rpl)
 |.med,[.str a,.list .fld f]=>some (⟨a,f⟩:Med)
 |.prw,[.str a,.str b,.str c,.list .byte d]=>some (⟨a,b,c,d⟩:Prt)
 |_,_=>none
def ownU:U→Option Nat
 |.bytes=>some 0|.prw=>some 3|_=>none
def ownB:(u:U)→u.den→Str
 |.bytes,(b:Str)=>b
 |.prw,(p:Prt)=>p.bytes
 |_,_=>[]
def Rh:(u:U)→u.den→Str→u.den
 |.bytes,_,b=>b
 |.prw,(p:Prt),b=>({ p with bytes:=b}:Prt)
 |_,x,_=>x
theorem zkU {I:Alg} {u:U} {o:Nat} (h:ownU u=some o) (x:u.den):(enc I u x)[o]? =some (.list .byte (ownB u x)):=by
 cases u<;>cases h<;>rfl
theorem zja {I:Alg} {u:U} {o:Nat} (h:ownU u=some o) (x:u.den) (b:Str) {j:Nat} (hj:j≠o):(enc I u (Rh u x b))[j]? =(enc I u x)[j]? :=by
 cases u<;>cases h
 · rcases j with _|j
   · exact absurd rfl hj
   · rfl
 · rcases j with _|_|_|_|j
   · rfl
   · rfl
   · rfl
   · exact absurd rfl hj
   · rfl
theorem zjc {u:U} {o:Nat} (h:ownU u=some o) (x:u.den) (b:Str):ownB u (Rh u x b)=b:=by
 cases u<;>cases h<;>rfl
theorem zjb (u:U):ownB u (dflt u)=[]:=by cases u<;>rfl
theorem zdD {u:U} {o:Nat} (h:ownU u=some o):o<u.size:=by cases u<;>cases h<;>decide
def tC (I:Alg) (u:U) (cs:List P):Option Prop:=
 match u,cs with
 |.byte,[.int .u8 n]=>some (I.inr .u8 n)
 |.prt,[.str _,.str _,.str _,.list .byte d]=>some (I.nne (I.len d))
 |_,_=>none
theorem zk9 {n:Int} (h:IntKind.u8.min≤n∧n≤IntKind.u8.max):((UInt8.ofNat n.toNat).toNat:Int)=n:=by
 have h1:IntKind.u8.min=0:=rfl
 have h2:IntKind.u8.max=255:=by decide
 rw [h1,h2] at h
 have:n.toNat<256:=by omega
 rw [UInt8.toNat_ofNat',Nat.mod_eq_of_lt this];omega
structure Ln where
 b:Str
 cr:Bool
 code:Int
 deriving DecidableEq
structure Ch where
 ln:Ln
 pos:Int
 left:Int
 all:Int
 tails:Int
 code:Int
structure Rq where
 ln:Ln
 pos:Int
 h:Hd
 left:Int
 ck:Option Ch
 own:Bool
 out:List Evt
structure Fm where
 mark:Str
 held:Int
 bs:List Int
 pos:Int
 ln:Option Ln
 fields:List Fld
 parts:Int
 skip:Int
 code:Int
 out:List Evt
structure Cn where
 q:Rq
 h:Hd
 body:Str
 live:Bool
 own:Bool
structure Cl where
 b:Str
 n:Int
 dead:Bool
structure Dk where
 o:Str
 w:Bool
 own:Bool
 l:List Upl
 n:Int
 b:Str
 s:Int
 c0:Cn
 c1:Cn
 c2:Cn
 c3:Cn
 t:List Int
inductive Gh where
 |rq (q:Rq)
 |fm (f:Fm)
 |cn (c:Cn)
 |cl (c:Cl)
 |dk (d:Dk)
inductive Cap where
 |p (x:P)
 |ptr (k off:Nat)
inductive C where
 |p (x:P)
 |ptr (k off:Nat)
 |ept (u:U) (k:Nat) (i:Int) (off:Nat)
 |fpt (u:U) (l:List u.den) (i:Int) (off:Nat)
 |row (k:Nat)
 |sub (u:U) (k:Nat) (lo hi:Int)
 |nilS
 |fn (f:Nat) (caps:List Cap)
 |ifc (T:Nat) (agg:Bool) (cs:List P)
 |any
inductive V0 where
 |one (c:C)
 |agg (cs:List C)
inductive D where
 |v (x:V0)
 |tup (l:List V0)
 |bad
inductive HO where
 |obj (T:Nat) (cs:List C)
 |row (u:U) (E:Nat) (l:List u.den)
 |pack (l:List HO)
 |gone
 |abs (g:Gh)
 |rws (u:U) (E Eb:Nat) (l:List u.den) (h:Option (Int × Nat))
class Facts where
 p:World→Prop
 sh:Gh→List HO
 ab:List HO→Option Gh
 abok: ∀ l g,ab l=some g→sh g=l
variable [Facts]
structure Frz where
 blk:Nat→Option Obj
 os:Os
 tape:Nat→Question→Nat
 output:Array (Nat × ByteArray)
 ok: ∀ w:World,(w.os=os∧w.tape=tape∧w.output=output∧∀ k o,blk k=some o→w.heap[k]? =some o)→Facts.p w
def Frz.re (S S2:Frz) (blk:Nat→Option Obj) (h1:S2.os=S.os) (h2:S2.tape=S.tape) (h3:S2.output=S.output) (h4: ∀ k o,S.blk k=some o→blk k=some o):Frz:=
 ⟨blk,S2.os,S2.tape,S2.output,fun w hw=>S.ok w ⟨hw.1.trans h1,hw.2.1.trans h2,hw.2.2.1.trans h3,fun k o ho=>hw.2.2.2 k o (h4 k o ho)⟩⟩
def frzC (S:Frz):Chunk where
 holds w F:=(∀ k,F k↔(S.blk k).isSome=true)∧w.os=S.os∧w.tape=S.tape∧w.output=S.output∧∀ k o,S.blk k=some o→w.heap[k]? =some o
 lt:=by
  rintro w F ⟨hF,_,_,_,h⟩ k hk;have:=(hF k).1 hk;obtain⟨o,ho⟩:=Option.isSome_iff_exists.1 this;exact(Array.getElem?_eq_some_iff.1 (h k o ho)).1
 keep:=by
  rintro w w' F ⟨hF,h1,h2,h3,h⟩ hk;refine⟨hF,hk.os.trans h1,hk.tape.trans h2,hk.output.trans h3,fun k o ho=> ?_⟩
  rw [hk.block k ((hF k).2 (by rw [ho];rfl))]
  exact h k o ho
def Frz.le (S S':Frz):Prop:=S'.os=S.os∧S'.tape=S.tape∧S'.output=S.output∧∀ k o,S.blk k=some o→S'.blk k=some o
theorem Frz.le.refl (S:Frz):S.le S:=⟨rfl,rfl,rfl,fun _ _ h=>h⟩
theorem Frz.le.trans {A B C:Frz} (h:A.le B) (k:B.le C):A.le C:=
 ⟨k.1.trans h.1,k.2.1.trans h.2.1,k.2.2.1.trans h.2.2.1,fun i o ho=>k.2.2.2 i o (h.2.2.2 i o ho)⟩
def Frz.on (S:Frz) (w:World):Prop:=w.os=S.os∧w.tape=S.tape∧w.output=S.output∧∀ k o,S.blk k=some o→w.heap[k]? =some o
theorem Frz.on.mono {S S':Frz} {w:World} (h:S'.on w) (hle:S.le S'):S.on w:=
 ⟨h.1.trans hle.1,h.2.1.trans hle.2.1,h.2.2.1.trans hle.2.2.1,fun k o ho=>h.2.2.2 k o (hle.2.2.2 k o ho)⟩
theorem Frz.on.facts {S:Frz} {w:World} (h:S.on w):Facts.p w:=S.ok w h
theorem At.frz {S:Frz} {l:List Chunk} {w:World} (H:At w (frzC S::l)):S.on w:=by
 obtain⟨A,h⟩:=H.head;exact h.2
def RdS (S:Frz) (size:Nat) (v:Value) (n:Nat) (cs:List Value):Prop:=∀ w,S.on w→Rd w size v n cs
theorem RdS.mono {S S':Frz} {size:Nat} {v:Value} {n:Nat} {cs:List Value} (h:RdS S size v n cs) (hle:S.le S'):RdS S' size v n cs:=
 fun w hw=>h w (hw.mono hle)
inductive MP (S:Frz):P→Value→Prop
 |int (k:IntKind) (n:Int):MP S (.int k n) (.int k n)
 |bool (b:Bool):MP S (.bool b) (.bool b)
 |str (l:Str) (h:l.length≤maxLen):MP S (.str l) (.string (Sep.S l))
 |list (u:U) (l:List u.den) (ao:Option Addr) (cap:Nat) (vs:List Value) (hlen:vs.length=l.length * u.size) (h:RdS S u.size (.slice ao l.length cap) l.length vs)
  (hx: ∀ (i:Nat) (x:u.den) (j:Nat) (p:P) (v:Value),l[i]? =some x→(enc alg u x)[j]? =some p→vs[i * u.size+j]? =some v→MP S p v):MP S (.list u l) (.slice ao l.length cap)
 |nl (l:Str) (v:Value) (h0:l=[]→v=.slice none 0 0) (h:MP S (.list .byte l) v):MP S (.nl l) v
 |val (v:Value) (h:v.oneCell'=true):MP S (.val v) v
theorem MP.one {S:Frz} {p:P} {v:Value} (h:MP S p v):v.oneCell'=true:=by cases h<;>first|rfl|assumption|(cases ‹MP S (.list _ _) _›;rfl)
theorem MP.mono {S S':Frz} (hle:S.le S') {p:P} {v:Value} (h:MP S p v):MP S' p v:=by
 induction h with
 |int k n=>exact .int k n
 |bool b=>exact .bool b
 |str l h=>exact .str l h
 |list u l ao cap vs hlen h hx ih=>exact .list u l ao cap vs hlen (h.mono hle) ih
 |nl l v h0 h ih=>exact .nl l v h0 ih
 |val v h=>exact .val v h
def MPs (S:Frz):List P→List Value→Prop
 |[],[]=>True
 |p::ps,v::vs=>MP S p v∧MPs S ps vs
 |_,_=>False
theorem YX {S:Frz} {u:U} {cs:List P} {x:u.den} {vs:List Value} (h:dec alg u cs=some x) (hn: ∀ p,tC alg u cs=some p→p) (hm:MPs S cs vs):MPs S (enc alg u x) vs:=by
 unfold dec at h
 split at h
 case h_1 n=>
  cases h;have:enc alg .byte (alg.i2b n)=[P.int .u8 n]:=congrArg (fun m=>[P.int .u8 m]) (zk9 (hn _ rfl));rw [this];exact hm
 case h_8 a b c d=>
  cases h;have hd:alg.nne (alg.len d):=hn _ rfl
  match vs,hm with
  |[v1,v2,v3,v4],⟨h1,h2,h3,h4,_⟩=>exact⟨h1,h2,h3,.nl d v4 (fun e=>absurd (by rw [e];rfl) hd) h4,trivial⟩
 all_goals(cases h<;>exact hm)
inductive CO where
 |obj (b T:Nat) (vs:List Value)
 |row (E size:Nat) (ao:Option Addr) (n cap:Nat) (vs:List Value)
 |pack (l:List CO)
 |gone (v:Value)
mutual
def CO.base:CO→Value
 |.obj b _ _=>.pointer (some ⟨b,0,none⟩)
 |.row _ _ ao n cap _=>.slice ao n cap
 |.pack l=>CO.zlG l
 |.gone v=>v
def CO.zlG:List CO→Value
 |[]=>undef
 |c::_=>c.base
end
mutual
def CO.chunk:CO→Chunk
 |.obj b T vs=>objC b T vs
 |.row E size ao n cap vs=>rowC E size (.slice ao n cap) n vs
 |.pack l=>sepC (CO.zl l)
 |.gone _=>zkL True
def CO.zl:List CO→List Chunk
 |[]=>[]
 |c::l=>c.chunk::CO.zl l
end
theorem CO.Y0 (l:List CO):CO.zl l=l.map CO.chunk:=by
 induction l with
 |nil=>rfl
 |cons c l ih=>simp [CO.zl,ih]
def zbK (size:Nat) (ao:Option Addr) (n cap l h:Nat) (v:Value):Prop:=
 ∃ ao' cap',v=.slice ao' (h - l) cap'∧l≤h∧h≤n∧h - l≤cap'∧cap'≤maxLen∧(ao'=none→cap'=0)∧(l<h→ao'=ao.map (·.add (l * size)))∧(l=0→ao'=ao∧cap'≤cap)
theorem Yz (ao:Option Addr) (k:Nat) (h:k=0):ao.map (·.add k)=ao:=by
 subst h
 cases ao with
 |none=>rfl
 |some a=>rfl
theorem zbK.mk {w:World} {size:Nat} {ao:Option Addr} {n cap l h:Nat} {cs:List Value} (hr:Rd w size (.slice ao n cap) n cs) (h1:l≤h) (h2:h≤n):zbK size ao n cap l h (Sep.sub (.slice ao n cap) size l h):=by
 obtain⟨_,_,e,hnc,hcm,hno,_⟩:=hr;cases e
 refine⟨_,_,rfl,h1,h2,by omega,by omega,fun e=> ?_,fun hlt=>if_neg (by omega),fun h0=>⟨?_,by omega⟩⟩
 case refine_2=>subst h0;rw [Yz _ _ (Nat.zero_mul _),ite_self]
 split at e
 · omega
 · cases ao with
   |none=>have:=hno rfl;omega
   |some a=>cases e
theorem zbK.sub {size:Nat} {ao:Option Addr} {n cap l h:Nat} {v:Value} (hs:zbK size ao n cap l h v) {l' h':Nat} (h1:l'≤h') (h2:h'≤h - l):zbK size ao n cap (l+l') (l+h') (Sep.sub v size l' h'):=by
 obtain⟨ao',cap',rfl,h3,h4,h5,h6,h7,h8,h9⟩:=hs
 refine⟨_,_,by unfold Sep.sub;simp only [Nat.add_sub_add_left];rfl,by omega,by omega,by omega,by omega,fun e=> ?_,fun hlt=> ?_,fun h0=> ?_⟩
 case refine_3=>
  obtain⟨e,hc⟩:=h9 (by omega)
  have:l'=0:=by omega
  subst this;rw [Yz _ _ (Nat.zero_mul _),ite_self]
  exact⟨e,by omega⟩
 · split at e
   · have:=h7 e;omega
   · cases ao' with
     |none=>have:=h7 rfl;omega
     |some a=>cases e
 · rw [if_neg (by omega),h8 (by omega)]
   cases ao with
   |none=>rfl
   |some a=>simp only [Option.map_some,Addr.add_add,Nat.add_mul]
theorem zbK.rd {w:World} {size:Nat} {ao:Option Addr} {n cap l h:Nat} {cs:List Value} {v:Value} (hs:zbK size ao n cap l h v) (hr:Rd w size (.slice ao n cap) n cs):
  Rd w size v (h - l) ((cs.drop (l * size)).take ((h - l) * size)):=by
 obtain⟨ao',cap',rfl,h3,h4,h5,h6,h7,h8,-⟩:=hs;have hs:=hr.sub h3 h4;have hlen:=hs.len;obtain⟨_,_,e0,hnc,hcm,hno,_⟩:=hr;cases e0;refine⟨ao',cap',rfl,h5,h6,h7,hlen,fun j u hj=> ?_⟩
 have hlt:l<h:=by
  have h9:=(jh.1 hj).1;rw [hlen] at h9
  rcases Nat.eq_zero_or_pos (h - l) with h0|h0
  · rw [h0] at h9;simp at h9
  · omega
 rw [h8 hlt];obtain⟨_,_,e,_,_,_,_,hc⟩:=hs;unfold Sep.sub at e;simp only at e
 rw [if_neg (by omega)] at e
 cases e;exact hc j u hj
def MCap (S:Frz) (bs:List Value):Cap→Value→Prop
 |.p x,v=>MP S x v
 |.ptr k off,v=>∃ b,bs[k]? =some (.pointer (some ⟨b,0,none⟩))∧v=.pointer (some ⟨b,off,none⟩)
def qg (S:Frz) (bs:List Value):List Cap→List Value→Prop
 |[],[]=>True
 |p::ps,v::vs=>MCap S bs p v∧qg S bs ps vs
 |_,_=>False
def MC (S:Frz) (bs:List Value):C→Value→Prop
 |.p x,v=>MP S x v
 |.ptr k off,v=>∃ b,bs[k]? =some (.pointer (some ⟨b,0,none⟩))∧v=.pointer (some ⟨b,off,none⟩)
 |.ept u k i off,v=>∃ ao n cap,bs[k]? =some (.slice ao n cap)∧0≤i∧v=.pointer (some (adr ao (i.toNat * u.size+off)))
 |.fpt u l i off,v=>∃ ao cap vs,vs.length=l.length * u.size∧RdS S u.size (.slice ao l.length cap) l.length vs∧(∀ (i:Nat) (x:u.den) (j:Nat) (p:P) (v:Value),l[i]? =some x→(enc alg u x)[j]? =some p→vs[i * u.size+j]? =some v→MP S p v)∧
  0≤i∧v=.pointer (some (adr ao (i.toNat * u.size+off)))
 |.row k,v=>bs[k]? =some v∧∃ ao n cap,v=.slice ao n cap
 |.sub u k lo hi,v=>∃ ao n cap,bs[k]? =some (.slice ao n cap)∧0≤lo∧0≤hi∧zbK u.size ao n cap lo.toNat hi.toNat v
 |.nilS,v=>v=.slice none 0 0
 |.fn f caps,v=>∃ vs:List Value,qg S bs caps vs∧v=.func (.func f) #[] vs.toArray
 |.ifc T false [p],v=>∃ x,MP S p x∧v=.iface T x
 |.ifc T true ps,v=>∃ vs:List Value,MPs S ps vs∧v=.iface T (.agg vs.toArray)
 |.ifc _ _ _,_=>False
 |.any,v=>v.oneCell'=true
end Go.Ab
namespace Go.Ab
open Go Go.Sep
variable [Facts]
def MCs (S:Frz) (bs:List Value):List C→List Value→Prop
 |[],[]=>True
 |c::cs,v::vs=>MC S bs c v∧MCs S bs cs vs
 |_,_=>False
def MV (S:Frz) (bs:List Value):V0→Value→Prop
 |.one c,v=>MC S bs c v
 |.agg cs,v=>∃ vs:List Value,MCs S bs cs vs∧v=.agg vs.toArray
def MVs (S:Frz) (bs:List Value):List V0→List Value→Prop
 |[],[]=>True
 |c::cs,v::vs=>MV S bs c v∧MVs S bs cs vs
 |_,_=>False
def MD (S:Frz) (bs:List Value):D→Value→Prop
 |.v x,v=>MV S bs x v
 |.tup l,v=>∃ vs:List Value,MVs S bs l vs∧v=.tuple vs.toArray
 |.bad,_=>True
theorem MPs.length {S:Frz}: ∀ {ps:List P} {vs:List Value},MPs S ps vs→vs.length=ps.length
 |[],[],_=>rfl
 |_::_,_::_,h=>congrArg (· +1) (MPs.length h.2)
theorem MCs.length {S:Frz} {bs:List Value}: ∀ {cs:List C} {vs:List Value},MCs S bs cs vs→vs.length=cs.length
 |[],[],_=>rfl
 |_::_,_::_,h=>congrArg (· +1) (MCs.length h.2)
theorem MCs.get {S:Frz} {bs:List Value}: ∀ {cs:List C} {vs:List Value},MCs S bs cs vs→∀ {j:Nat} {c:C},cs[j]? =some c→∃ v,vs[j]? =some v∧MC S bs c v
 |[],[],_,j,c,h=>by simp at h
 |c::cs,v::vs,h,0,c',e=>by simp at e;subst e;exact⟨v,rfl,h.1⟩
 | c::cs,v::vs,h,j+1,c',e=>by
   obtain⟨u,h1,h2⟩:=MCs.get h.2 (j:=j) (c:=c') (by simpa using e)
   exact⟨u,by simpa using h1,h2⟩
theorem MPs.get {S:Frz}: ∀ {cs:List P} {vs:List Value},MPs S cs vs→∀ {j:Nat} {c:P},cs[j]? =some c→∃ v,vs[j]? =some v∧MP S c v
 |[],[],_,j,c,h=>by simp at h
 |c::cs,v::vs,h,0,c',e=>by simp at e;subst e;exact⟨v,rfl,h.1⟩
 | c::cs,v::vs,h,j+1,c',e=>by
   obtain⟨u,h1,h2⟩:=MPs.get h.2 (j:=j) (c:=c') (by simpa using e)
   exact⟨u,by simpa using h1,h2⟩
theorem MCs.Td {S:Frz} {bs:List Value}: ∀ {cs:List C} {vs:List Value},vs.length=cs.length→(∀ (j:Nat) (c:C) (v:Value),cs[j]? =some c→vs[j]? =some v→MC S bs c v)→MCs S bs cs vs
 |[],[],_,_=>trivial
 |c::cs,v::vs,hl,h=>⟨h 0 c v rfl rfl,MCs.Td (by simpa using hl) fun j c' v' h1 h2=>h (j+1) c' v' (by simpa using h1) (by simpa using h2)⟩
theorem MPs.Td {S:Frz}: ∀ {cs:List P} {vs:List Value},vs.length=cs.length→(∀ (j:Nat) (c:P) (v:Value),cs[j]? =some c→vs[j]? =some v→MP S c v)→MPs S cs vs
 |[],[],_,_=>trivial
 |c::cs,v::vs,hl,h=>⟨h 0 c v rfl rfl,MPs.Td (by simpa using hl) fun j c' v' h1 h2=>h (j+1) c' v' (by simpa using h1) (by simpa using h2)⟩
theorem MPs.mono {S S':Frz} (hle:S.le S'): ∀ {cs:List P} {vs:List Value},MPs S cs vs→MPs S' cs vs
 |[],[],_=>trivial
 |_::_,_::_,h=>⟨h.1.mono hle,MPs.mono hle h.2⟩
theorem MPs.mcs {S:Frz} {bs:List Value}: ∀ {cs:List P} {vs:List Value},MPs S cs vs→MCs S bs (cs.map C.p) vs
 |[],[],_=>trivial
 |_::_,_::_,h=>⟨h.1,MPs.mcs h.2⟩
theorem MCs.slice {S:Frz} {bs:List Value} {cs:List C} {vs:List Value} (h:MCs S bs cs vs) (o n:Nat):MCs S bs ((cs.drop o).take n) ((vs.drop o).take n):=by
 have hl:=h.length
 refine MCs.Td (by simp [hl]) fun j c v hc hv=> ?_
 rw [jC] at hc hv
 split at hc
 · rename_i hj
   rw [if_pos hj] at hv;rw [jF] at hc hv;obtain⟨u,hu,hm⟩:=h.get hc;rw [hu] at hv;cases hv;exact hm
 · cases hc
theorem MCs.set {S:Frz} {bs:List Value} {cs:List C} {vs:List Value} (h:MCs S bs cs vs) (o:Nat) {c:C} {v:Value} (hc:MC S bs c v):MCs S bs (cs.set o c) (vs.set o v):=by
 have hl:=h.length
 refine MCs.Td (by simp [hl]) fun j c' v' h1 h2=> ?_
 rw [List.getElem?_set] at h1 h2
 by_cases hj:o=j
 · subst hj
   simp only [if_true] at h1 h2
   split at h1
   · rename_i hlt
     rw [if_pos (by omega)] at h2
     cases h1;cases h2;exact hc
   · cases h1
 · rw [if_neg hj] at h1 h2
   obtain⟨u,hu,hm⟩:=h.get h1;rw [hu] at h2;cases h2;exact hm
def Ext (bs bs':List Value):Prop:=∀ (k:Nat) (v:Value),bs[k]? =some v→bs'[k]? =some v
theorem Ext.refl (bs:List Value):Ext bs bs:=fun _ _ h=>h
theorem Ext.trans {a b c:List Value} (h:Ext a b) (k:Ext b c):Ext a c:=fun i v hv=>k i v (h i v hv)
theorem Ext.append (a b:List Value):Ext a (a++b):=fun k v h=>by
 have:=(jh.1 h).1;rw [jw this];exact h
theorem MCap.mono {S S':Frz} (hle:S.le S') {bs bs':List Value} (he:Ext bs bs') {c:Cap} {v:Value} (h:MCap S bs c v):MCap S' bs' c v:=by
 cases c with
 |p x=>exact MP.mono hle h
 |ptr k off=>obtain⟨b,h1,h2⟩:=h;exact⟨b,he _ _ h1,h2⟩
theorem qg.mono {S S':Frz} (hle:S.le S') {bs bs':List Value} (he:Ext bs bs'): ∀ {cs:List Cap} {vs:List Value},qg S bs cs vs→qg S' bs' cs vs
 |[],[],_=>trivial
 |_::_,_::_,h=>⟨h.1.mono hle he,qg.mono hle he h.2⟩
theorem MC.mono {S S':Frz} (hle:S.le S') {bs bs':List Value} (he:Ext bs bs'): ∀ {c:C} {v:Value},MC S bs c v→MC S' bs' c v:=by
 intro c v h
 cases c with
 |p x=>exact MP.mono hle h
 |ptr k off=>obtain⟨b,h1,h2⟩:=h;exact⟨b,he _ _ h1,h2⟩
 |ept u k i off=>obtain⟨ao,n,cap,h1,h2⟩:=h;exact⟨ao,n,cap,he _ _ h1,h2⟩
 |fpt u l i off=>obtain⟨ao,cap,vs,h0,h1,h2,h3⟩:=h;exact⟨ao,cap,vs,h0,h1.mono hle,fun i x j p v a b c=>(h2 i x j p v a b c).mono hle,h3⟩
 |row k=>exact⟨he _ _ h.1,h.2⟩
 |sub u k lo hi=>obtain⟨ao,n,cap,h1,h2⟩:=h;exact⟨ao,n,cap,he _ _ h1,h2⟩
 |nilS=>exact h
 |fn f caps=>obtain⟨vs,h1,h2⟩:=h;exact⟨vs,h1.mono hle he,h2⟩
 | ifc T agg cs=>
   cases agg with
   | false=>
     cases cs with
     |nil=>exact h.elim
     | cons p ps=>
       cases ps with
       |nil=>obtain⟨x,h1,h2⟩:=h;exact⟨x,h1.mono hle,h2⟩
       |cons q qs=>exact h.elim
   |true=>obtain⟨vs,h1,h2⟩:=h;exact⟨vs,h1.mono hle,h2⟩
 |any=>exact h
theorem MCs.mono {S S':Frz} (hle:S.le S') {bs bs':List Value} (he:Ext bs bs'): ∀ {cs:List C} {vs:List Value},MCs S bs cs vs→MCs S' bs' cs vs
 |[],[],_=>trivial
 |_::_,_::_,h=>⟨h.1.mono hle he,MCs.mono hle he h.2⟩
theorem MV.mono {S S':Frz} (hle:S.le S') {bs bs':List Value} (he:Ext bs bs') {c:V0} {v:Value} (h:MV S bs c v):MV S' bs' c v:=by
 cases c with
 |one c=>exact MC.mono hle he h
 |agg cs=>obtain⟨vs,h1,h2⟩:=h;exact⟨vs,h1.mono hle he,h2⟩
theorem MVs.mono {S S':Frz} (hle:S.le S') {bs bs':List Value} (he:Ext bs bs'): ∀ {cs:List V0} {vs:List Value},MVs S bs cs vs→MVs S' bs' cs vs
 |[],[],_=>trivial
 |_::_,_::_,h=>⟨h.1.mono hle he,MVs.mono hle he h.2⟩
theorem MD.mono {S S':Frz} (hle:S.le S') {bs bs':List Value} (he:Ext bs bs') {d:D} {v:Value} (h:MD S bs d v):MD S' bs' d v:=by
 cases d with
 |v x=>exact MV.mono hle he h
 |tup l=>obtain⟨vs,h1,h2⟩:=h;exact⟨vs,h1.mono hle he,h2⟩
 |bad=>trivial
theorem MC.one {S:Frz} {bs:List Value} {c:C} {v:Value} (h:MC S bs c v):v.oneCell'=true:=by
 cases c with
 |p x=>exact MP.one h
 |ptr k off=>obtain⟨b,_,rfl⟩:=h;rfl
 |ept u k i off=>obtain⟨ao,n,cap,_,_,rfl⟩:=h;rfl
 |fpt u l i off=>obtain⟨ao,cap,vs,_,_,_,_,rfl⟩:=h;rfl
 |row k=>obtain⟨_,ao,n,cap,rfl⟩:=h;rfl
 |sub u k lo hi=>obtain⟨ao,n,cap,_,_,_,_,_,rfl,_⟩:=h;rfl
 |nilS=>cases h;rfl
 |fn f caps=>obtain⟨vs,_,rfl⟩:=h;rfl
 | ifc T agg cs=>
   cases agg with
   | false=>
     cases cs with
     |nil=>exact h.elim
     | cons p ps=>
       cases ps with
       |nil=>obtain⟨x,_,rfl⟩:=h;rfl
       |cons q qs=>exact h.elim
   |true=>obtain⟨vs,_,rfl⟩:=h;rfl
 |any=>exact h
theorem MCs.one {S:Frz} {bs:List Value} {cs:List C} {vs:List Value} (h:MCs S bs cs vs): ∀ v ∈ vs,v.oneCell'=true:=by
 intro v hv;obtain⟨j,hj⟩:=List.getElem?_of_mem hv;have hl:=h.length;have hlt:=(jh.1 hj).1
 obtain⟨u,hu,hm⟩:=h.get (j:=j) (ji (by omega))
 rw [hu] at hj;cases hj;exact hm.one
def rX (h:Option (Int × Nat)) (i:Nat):Option Nat:=match h with|some (i',m)=>if i'.toNat=i then some m else none|none=>none
def OwnC (bs:List Value) (Eb:Nat) (hole:Option Nat) (b:Str) (c:CO) (v:Value):Prop:=
 match hole with
 |some m=>bs[m]? =some v∧∃ ao n cap,v=.slice ao n cap
 |none=>∃ ao cap,c=.row Eb 1 ao b.length cap (bvs b)∧v=.slice ao b.length cap
inductive Rel (S:Frz):List Value→HO→CO→Prop
 |obj {bs:List Value} {b T:Nat} {cs:List C} {vs:List Value} (h:MCs S bs cs vs):Rel S bs (.obj T cs) (.obj b T vs)
 |row {bs:List Value} {u:U} {E:Nat} {l:List u.den} {ao:Option Addr} {cap:Nat} {vs:List Value} (hlen:vs.length=l.length * u.size)
  (hx: ∀ (i:Nat) (x:u.den) (j:Nat) (p:P) (v:Value),l[i]? =some x→(enc alg u x)[j]? =some p→vs[i * u.size+j]? =some v→MP S p v):Rel S bs (.row u E l) (.row E u.size ao l.length cap vs)
 |pack {bs:List Value} {hs:List HO} {K:List CO} (hl:hs.length=K.length) (h: ∀ (i:Nat) (o:HO) (c:CO),hs[i]? =some o→K[i]? =some c→Rel S (K.map CO.base) o c):Rel S bs (.pack hs) (.pack K)
 |gone {bs:List Value} {c:CO}:Rel S bs .gone c
 |rws {bs:List Value} {u:U} {E Eb o:Nat} {l:List u.den} {h:Option (Int × Nat)} {ao:Option Addr} {cap:Nat} {vs:List Value} {R:List CO} (ho:ownU u=some o) (hlen:vs.length=l.length * u.size) (hR:R.length=l.length)
  (hx: ∀ (i:Nat) (x:u.den) (j:Nat) (p:P) (v:Value),l[i]? =some x→(enc alg u x)[j]? =some p→j≠o→vs[i * u.size+j]? =some v→MP S p v)
  (hw: ∀ (i:Nat) (x:u.den) (v:Value) (c:CO),l[i]? =some x→vs[i * u.size+o]? =some v→R[i]? =some c→OwnC bs Eb (rX h i) (ownB u x) c v):Rel S bs (.rws u E Eb l h) (.pack (.row E u.size ao l.length cap vs::R))
 |abs {bs:List Value} {g:Gh} {K:List CO} (hl:(Facts.sh g).length=K.length) (h: ∀ (i:Nat) (o:HO) (c:CO),(Facts.sh g)[i]? =some o→K[i]? =some c→Rel S (K.map CO.base) o c):Rel S bs (.abs g) (.pack K)
theorem OwnC.mono {bs bs':List Value} (he:Ext bs bs') {Eb:Nat} {q:Option Nat} {b:Str} {c:CO} {v:Value} (h:OwnC bs Eb q b c v):OwnC bs' Eb q b c v:=by
 cases q with
 |none=>exact h
 |some m=>exact⟨he _ _ h.1,h.2⟩
theorem Rel.mono {S S':Frz} (hle:S.le S') {bs:List Value} {o:HO} {c:CO} (h:Rel S bs o c): ∀ {bs':List Value},Ext bs bs'→Rel S' bs' o c:=by
 induction h with
 |obj h=>intro bs' he;exact .obj (h.mono hle he)
 |row hlen hx=>intro bs' _;exact .row hlen fun i x j p v a b c=>(hx i x j p v a b c).mono hle
 |pack hl h ih=>intro bs' _;exact .pack hl fun i o c a b=>ih i o c a b (Ext.refl _)
 |gone=>intro bs' _;exact .gone
 |rws ho hlen hR hx hw=>intro bs' he;exact .rws ho hlen hR (fun i x j p v a b c d=>(hx i x j p v a b c d).mono hle) fun i x v c a b d=>(hw i x v c a b d).mono he
 |abs hl h ih=>intro bs' _;exact .abs hl fun i o c a b=>ih i o c a b (Ext.refl _)
theorem Rel.zlI {S:Frz} {bs:List Value} {g:Gh} {c:CO}:Rel S bs (.abs g) c↔Rel S bs (.pack (Facts.sh g)) c:=by
 constructor
 · intro h;cases h with|abs a b=>exact .pack a b
 · intro h;cases h with|pack a b=>exact .abs a b
def partsOf:HO→List HO
 |.pack l=>l
 |.abs g=>Facts.sh g
 |_=>[]
theorem Rel.parts {S:Frz} {bs:List Value} {o:HO} {c:CO} (h:Rel S bs o c) {h0:HO} {hs:List HO} (hp:partsOf o=h0::hs):
  ∃ K,c=.pack K∧(h0::hs).length=K.length∧∀ (i:Nat) (o:HO) (c:CO),(h0::hs)[i]? =some o→K[i]? =some c→Rel S (K.map CO.base) o c:=by
 cases h with
 |obj h=>cases hp
 |row a b=>cases hp
 |gone=>cases hp
 |rws=>cases hp
 |pack a b=>simp only [partsOf] at hp;subst hp;exact⟨_,rfl,a,b⟩
 |abs a b=>simp only [partsOf] at hp;rw [hp] at a b;exact⟨_,rfl,a,b⟩
def zat (l:List HO):HO:=match Facts.ab l with|some g=>.abs g|none=>.pack l
theorem Rel.zat {S:Frz} {bs:List Value} {l:List HO} {c:CO} (h:Rel S bs (.pack l) c):Rel S bs (zat l) c:=by
 unfold Ab.zat
 split
 · rename_i g hg;rw [Rel.zlI,Facts.abok _ _ hg];exact h
 · exact h
def HR (S:Frz) (bs:List Value) (hp:List HO) (K:List CO):Prop:=hp.length=K.length∧∀ (i:Nat) (o:HO) (c:CO),hp[i]? =some o→K[i]? =some c→Rel S bs o c
theorem HR.mono {S S':Frz} (hle:S.le S') {bs bs':List Value} (he:Ext bs bs') {hp:List HO} {K:List CO} (h:HR S bs hp K):HR S' bs' hp K:=
 ⟨h.1,fun i o c a b=>(h.2 i o c a b).mono hle he⟩
theorem HR.get {S:Frz} {bs:List Value} {hp:List HO} {K:List CO} (h:HR S bs hp K) {k:Nat} {o:HO} (ho:hp[k]? =some o): ∃ c,K[k]? =some c∧Rel S bs o c:=by
 have hlt:=(jh.1 ho).1
 have:k<K.length:=by rw [← h.1];exact hlt
 exact⟨K[k],ji this,h.2 k o _ ho (ji this)⟩
structure St where
 env:List (Nat × D)
 hp:List HO
 n:Nat
 df:Option (Nat × List Cap):=none
def look:List (Nat × D)→Nat→Option D
 |[],_=>none
 |(k,d)::r,t=>match Nat.beq k t with|true=>some d|false=>look r t
theorem xw (k:Nat) (d:D) (r:List (Nat × D)) (t:Nat):look ((k,d)::r) t=if k=t then some d else look r t:=by
 simp only [look]
 split
 · rename_i h;rw [if_pos (jH h)]
 · rename_i h;rw [if_neg (Nat.ne_of_beq_eq_false h)]
def MDf (S:Frz) (bs:List Value):Option (Nat × List Cap)→List Deferred→Prop
 |none,ds=>ds=[]
 |some (g,caps),ds=>∃ vs:List Value,qg S bs caps vs∧ds=[⟨.fn (.func g) vs.toArray,#[]⟩]
theorem MDf.mono {S S':Frz} (hle:S.le S') {bs bs':List Value} (he:Ext bs bs'): ∀ {df:Option (Nat × List Cap)} {ds:List Deferred},MDf S bs df ds→MDf S' bs' df ds
 |none,_,h=>h
 |some (_,_),_,⟨vs,h,e⟩=>⟨vs,h.mono hle he,e⟩
structure Env (S:Frz) (bs:List Value) (st:St) (a:Act):Prop where
 size:a.tmps.size=st.n
 defers:MDf S bs st.df a.defers
 slots: ∀ t d,look st.env t=some d→MD S bs d (a.tmps.getD t undef)
theorem Env.mono {S S':Frz} (hle:S.le S') {bs bs':List Value} (he:Ext bs bs') {st:St} {a:Act} (h:Env S bs st a):Env S' bs' st a:=
 ⟨h.size,h.defers.mono hle he,fun t d hd=>(h.slots t d hd).mono hle he⟩
structure Ctx where
 S0:Frz
 bs0:List Value
 fr:List Chunk
def Heap (X:Ctx) (hp:List HO) (S:Frz) (K:List CO) (w:World):Prop:=
 X.S0.le S∧Ext X.bs0 (K.map CO.base)∧HR S (K.map CO.base) hp K∧At w (frzC S::(CO.zl K++X.fr))
end Go.Ab
namespace Go.Ab
open Go Go.Sep
variable [Facts]
inductive Ty where
 |bool|int (k:IntKind)|str|ptr|slice (e:Nat)|struct (fs:List (Nat × Nat))|array (n e:Nat)|other|iface
structure TE where
 ty:Ty
 size:Nat
 bytes:Nat
 zero:Option (List P)
 u:Option U
abbrev Tab:=Nat→Option TE
def nth {α:Type}:List α→Nat→Option α
 |[],_=>none
 |x::_,0=>some x
 |_::l,n+1=>nth l n
theorem yc {α:Type}: ∀ (l:List α) (n:Nat),nth l n=l[n]?
 |[],_=>by simp [nth]
 |x::l,0=>rfl
 |x::l,n+1=>by simp only [nth,List.getElem?_cons_succ];exact yc l n
def zaL:IntKind→IntKind→Bool
 |.i8,.i8|.i16,.i16|.i32,.i32|.i64,.i64|.u8,.u8|.u16,.u16|.u32,.u32|.u64,.u64=>true
 |_,_=>false
theorem vV {a b:IntKind} (h:zaL a b=true):a=b:=by cases a<;>cases b<;>first|rfl|cases h
def Ty.fits:Ty→TypeDesc→Bool
 |.bool,.bool=>true
 |.int k,.int k'=>zaL k k'
 |.str,.string=>true
 |.ptr,.pointer _=>true
 |.slice e,.slice e'=>e == e'
 |.struct fs,.struct gs=>gs.toList.map (fun f=>(f.offset,f.type)) == fs
 |.array n e,.array n' e'=>n == n'&&e == e'
 |.iface,.interface _=>true
 |.other,d=> !d.isRow
 |_,_=>false
def yC:List Value→List P→Bool
 |[],[]=>true
 |.int k 0::vs,.int k' 0::ps=>zaL k k'&&yC vs ps
 |.bool false::vs,.bool false::ps=>yC vs ps
 |.string ⟨⟨[]⟩⟩::vs,.str []::ps=>yC vs ps
 |.slice none 0 0::vs,.list _ []::ps=>yC vs ps
 |.slice none 0 0::vs,.nl []::ps=>yC vs ps
 |.pointer none::vs,.val (.pointer none)::ps=>yC vs ps
 |.nilFunc::vs,.val .nilFunc::ps=>yC vs ps
 |.nilIface::vs,.val .nilIface::ps=>yC vs ps
 |_,_=>false
def U5:Ty→Bool
 |.bool|.int _|.str=>true
 |_=>false
def XI (T:Tab):List (Nat × Nat)→Bool
 |[]=>true
 |(_,t)::r=>match T t with|some e=>U5 e.ty&&XI T r|none=>false
def zkm (P:Program) (T:Tab) (t:Nat) (ty:Ty) (d:TypeDesc):Bool:=
 match ty,d with
 |.struct fs,.struct gs=> !XI T fs||((gs.toList.all fun f=>f.name != "_")&& !P.stoodInHeld t)
 |_,_=>true
def TE.fits (P:Program) (T:Tab) (t:Nat) (e:TE):Bool:=
 match P.underlying t,P.info? t with
 |some d,some i=>zkm P T t e.ty d&&e.ty.fits d&&i.size == e.size&&i.bytes == e.bytes&&
  (match e.zero with|none=>true|some z=>match i.zero with|some v=>yC v.cells.toList z&&z.length == e.size|none=>false)&&
  (match e.u with|none=>true|some u=>match e.ty with|.slice el=>(match T el with|some ee=>ee.size == u.size&&decide (0<u.size)|none=>false)|_=>false)
 |_,_=>false
def Tab.fits (P:Program) (T:Tab):Prop:=∀ t e,T t=some e→e.fits P T t=true
inductive TT where
 |nil
 |node (l:TT) (k:Nat) (e:TE) (r:TT)
def TT.get:TT→Tab
 |.nil,_=>none
 |.node l k e r,t=>match Nat.beq t k with|true=>some e|false=>match Nat.blt t k with|true=>l.get t|false=>r.get t
def TT.all (p:Nat→TE→Bool):TT→Bool
 |.nil=>true
 |.node l k e r=>l.all p&&p k e&&r.all p
theorem TT.zcO {p:Nat→TE→Bool}: ∀ {x:TT} {t:Nat} {e:TE},x.all p=true→x.get t=some e→p t e=true
 |.nil,t,e,_,h=>by cases h
 | .node l k e0 r,t,e,ha,h=>by
   simp only [TT.all,jJ] at ha;simp only [TT.get] at h
   split at h
   · rename_i hk;cases h;rw [jH hk];exact ha.1.2
   · split at h
     · exact TT.zcO ha.1.1 h
     · exact TT.zcO ha.2 h
theorem Tab.zln {P:Program} {x:TT} (h:x.all (fun t e=>e.fits P x.get t)=true):Tab.fits P x.get:=fun _ _ he=>TT.zcO h he
def zc:P→C
 |.list _ []=>.nilS
 |.nl []=>.nilS
 |p=>.p p
def purC (z:P) (c:C):Option P:=
 match c with
 |.p x=>some x
 |.nilS=>match z with|.list u _=>some (.list u [])|.nl _=>some (.nl [])|_=>none
 |_=>none
def uY:List P→List C→Option (List P)
 |[],[]=>some []
 |z::zs,c::cs=>match purC z c,uY zs cs with|some p,some ps=>some (p::ps)|_,_=>none
 |_,_=>none
def cpyL {α β:Type}:List α→(List α→β)→β
 |[],k=>k []
 |x::l,k=>cpyL l fun l=>k (x::l)
theorem zie {α β:Type}: ∀ (l:List α) (k:List α→β),cpyL l k=k l
 |[],_=>rfl
 |x::l,k=>by rw [cpyL,zie l]
def zb6:Value→Option C
 |.int k n=>some (.p (.int k n))
 |.bool true=>some (.p (.val (.bool true)))
 |.bool false=>some (.p (.val (.bool false)))
 |.string s=>match decide (s.data.toList.length≤100000) with|true=>cpyL s.data.toList fun l=>some (.p (.str l))|false=>none
 |.slice none 0 0=>some .nilS
 |.pointer none=>some (.p (.val (.pointer none)))
 |.nilFunc=>some (.p (.val .nilFunc))
 |.nilIface=>some (.p (.val .nilIface))
 |_=>none
def St.eval (st:St):Operand→Option D
 |.tmp t=>look st.env t
 |.const v=>match zb6 v with|some c=>some (.v (.one c))|none=>none
 |.func f=>some (.v (.one (.fn f [])))
 |.global _=>none
inductive QR where
 |ok (d:D)
 |need (p:Prop) (r:QR)
 |br (b:Bool) (t f:QR)
 |both (t f:QR)
 |no
def QR.holds:QR→(D→Prop)→Prop
 |.ok d,K=>K d
 |.need p r,K=>p∧r.holds K
 |.br b t f,K=>(b=true→t.holds K)∧(b=false→f.holds K)
 |.both t f,K=>t.holds K∧f.holds K
 |.no,_=>False
def okc (c:C):QR:=.ok (.v (.one c))
def okp (p:P):QR:=.ok (.v (.one (.p p)))
def cont (I:Alg) (hp:List HO):C→Option (Sigma fun u:U=>List u.den)
 |.p (.list u l)=>some ⟨u,l⟩
 |.p (.nl l)=>some ⟨.byte,l⟩
 |.row k=>match nth hp k with|some (.row u _ l)=>some ⟨u,l⟩|_=>none
 |.sub u k lo hi=>match nth hp k with|some (.row u' _ l)=>(match Nat.beq u.size u'.size with|true=>some ⟨u',I.cut l lo hi⟩|false=>none)|_=>none
 |_=>none
def lenQ (I:Alg) (hp:List HO):Ty→C→Option Int
 |.str,.p (.str l)=>some (I.len l)
 |.slice _,.nilS=>some 0
 |.slice _,.sub _ _ lo hi=>some (I.sub hi lo)
 |.slice _,.p (.list _ l)=>some (I.len l)
 |.slice _,.p (.nl l)=>some (I.len l)
 |.slice _,.row k=>match nth hp k with|some (.row _ _ l)=>some (I.len l)|some (.rws _ _ _ l _)=>some (I.len l)|_=>none
 |_,_=>none
def qB:Ty→Bool
 |.struct _|.array .. =>true
 |_=>false
def fetch (e:TE) (cs:List C):QR:=
 match qB e.ty with
 |true=>match Nat.beq cs.length e.size with|true=>.ok (.v (.agg cs))|false=>.no
 |false=>match cs with|[c]=>okc c|_=>.no
def zjm (I:Alg) (hp:List HO) (e:TE):C→QR
 |.ptr k off=>match nth hp k with|some (.obj _ cs)=>fetch e ((cs.drop off).take e.size)|_=>.no
 | .ept u k i off=>match nth hp k with
   |some (.row u' _ l)=>(match Nat.beq u.size u'.size with|true=>.need (I.inb i (I.len l)) (fetch e ((((enc I u' (I.get l (dflt u') i)).map C.p).drop off).take e.size))|false=>.no)
   | some (.rws u' _ _ l (some (i',m)))=>(match Nat.beq u.size u'.size,ownU u',qB e.ty with
     |true,some o,false=>(match Nat.beq off o with|true=>.need (I.same i i') (.need (I.inb i (I.len l)) (okc (.row m)))|false=>.no)
     |_,_,_=>.no)
   |_=>.no
 |.fpt u l i off=>.need (I.inb i (I.len l)) (fetch e ((((enc I u (I.get l (dflt u) i)).map C.p).drop off).take e.size))
 |_=>.no
def SS (I:Alg) (k:IntKind) (n:Int):QR:=.need (I.inr k n) (okp (.int k n))
def intQ (I:Alg) (op:BinOp) (k:IntKind) (x y:Int):QR:=
 match op with
 |.add=>SS I k (I.add x y)
 |.sub=>SS I k (I.sub x y)
 |.mul=>SS I k (I.mul x y)
 |.quo=>.need (I.nne y) (SS I k (I.quo x y))
 |.rem=>.need (I.nne y) (okp (.int k (I.rem x y)))
 |.and=>okp (.int k (I.bits .and k x y))
 |.or=>okp (.int k (I.bits .or k x y))
 |.xor=>okp (.int k (I.bits .xor k x y))
 |.eql=>okp (.bool (I.ieq x y))
 |.neq=>okp (.bool (I.bnot (I.ieq x y)))
 |.lss=>okp (.bool (I.ilt x y))
 |.leq=>okp (.bool (I.ile x y))
 |.gtr=>okp (.bool (I.ilt y x))
 |.geq=>okp (.bool (I.ile y x))
 |_=>.no
def zf6 (I:Alg) (op:BinOp) (k:IntKind) (x y:Int):QR:=
 match op with
 |.shl=>.need (I.nng y) (okp (.int k (I.shl k x y)))
 |.shr=>.need (I.nng y) (.need (I.few y 64) (.need (I.few y k.bits) (okp (.int k (I.shr x y)))))
 |_=>.no
def strQ (I:Alg) (op:BinOp) (x y:Str):QR:=
 match op with
 |.add=>.need (I.few (I.add (I.len x) (I.len y)) 1000000000) (okp (.str (I.app x y)))
 |.eql=>okp (.bool (I.seq x y))
 |.neq=>okp (.bool (I.bnot (I.seq x y)))
 |_=>.no
def zch:BinOp→Bool
 |.shl|.shr=>true
 |_=>false
def zfE:C→Option Bool
 |.p (.bool b)=>some b
 |.p (.val (.bool b))=>some b
 |_=>none
def binQ (I:Alg) (op:BinOp) (ty:Ty) (x y:C):QR:=
 match x,y with
 |.p (.int k a),.p (.int k' b)=>match zch op with|true=>zf6 I op k a b|false=>match zaL k k' with|true=>intQ I op k a b|false=>.no
 |.p (.str a),.p (.str b)=>strQ I op a b
 | .ptr _ _,.p (.val (.pointer none))=>match ty with
   |.ptr=>(match op with|.eql=>okp (.val (.bool false))|.neq=>okp (.val (.bool true))|_=>.no)
   |_=>.no
 | x,y=>match ty,zfE x,zfE y with
   |.bool,some a,some b=>(match op with|.eql=>okp (.bool (I.beq a b))|.neq=>okp (.bool (I.bnot (I.beq a b)))|_=>.no)
   |_,_,_=>.no
def eqC (I:Alg) (ty:Ty) (x y:C):Option Bool:=
 match ty with
 |.str=>(match x,y with|.p (.str a),.p (.str b)=>some (I.seq a b)|_,_=>none)
 |.int _=>(match x,y with|.p (.int k1 a),.p (.int k2 b)=>(match zaL k1 k2 with|true=>some (I.ieq a b)|false=>none)|_,_=>none)
 |.bool=>(match zfE x,zfE y with|some a,some b=>some (I.beq a b)|_,_=>none)
 |_=>none
def eqFs (I:Alg) (T:Tab) (cs ds:List C):List (Nat × Nat)→Option Bool
 |[]=>none
 | (o, t)::r=>match nth cs o,nth ds o,T t with
   | some c,some d,some e=>(match eqC I e.ty c d with
     | some b=>(match r with
       |[]=>some b
       |_=>match eqFs I T cs ds r with|some b'=>some (I.ban b b')|none=>none)
     |none=>none)
   |_,_,_=>none
def aggQ (I:Alg) (T:Tab) (op:BinOp) (ty:Ty) (cs ds:List C):QR:=
 match ty with
 | .struct fs=>(match XI T fs,eqFs I T cs ds fs with
   |true,some b=>(match op with|.eql=>okp (.bool b)|.neq=>okp (.bool (I.bnot b))|_=>.no)
   |_,_=>.no)
 |_=>.no
def zfg (i:Int):Option Nat:=match i with|.ofNat n=>some n|.negSucc _=>none
def UR (I:Alg) (hp:List HO) (ty:Ty) (sz:Nat) (c:C) (lo hi:Option Int):QR:=
 match ty,c with
 | .str,.p (.str l)=>
   let a:=lo.getD 0;let b:=hi.getD (I.len l)
   .need (I.cutb a b (I.len l)) (okp (.str (I.cut l a b)))
 | .slice _,.p (.list u l)=>
   let a:=lo.getD 0;let b:=hi.getD (I.len l)
   match Nat.beq sz u.size with|true=>.need (I.cutb a b (I.len l)) (okp (.list u (I.cut l a b)))|false=>.no
 | .slice _,.row k=>match nth hp k with
   | some (.row u _ l)=>
     let a:=lo.getD 0;let b:=hi.getD (I.len l)
     match Nat.beq sz u.size with|true=>.need (I.cutb a b (I.len l)) (okc (.sub u k a b))|false=>.no
   |_=>.no
 | .slice _,.sub u k a0 b0=>
   let a:=lo.getD 0;let b:=hi.getD (I.sub b0 a0)
   match Nat.beq sz u.size with|true=>.need (I.cutb a b (I.sub b0 a0)) (okc (.sub u k (I.add a0 a) (I.add a0 b)))|false=>.no
 | .slice _,.nilS=>
   let a:=lo.getD 0;let b:=hi.getD 0
   match Nat.blt 0 sz with|true=>.need (I.cutb a b 0) (okc .nilS)|false=>.no
 | .array n _,.ept u k i0 off=>match nth hp k,zfg i0,off with
   | some (.row u' _ l),some 0,0=>
     let a:=lo.getD 0;let b:=hi.getD (Int.ofNat n)
     (match Nat.beq sz u.size,Nat.beq u.size u'.size,Nat.blt 0 n,Nat.ble n 1000000 with
     |true,true,true,true=>.need (I.cutb a b (Int.ofNat n)) (.need (I.same (I.len l) (Int.ofNat n)) (okc (.sub u k a b)))
     |_,_,_,_=>.no)
   |_,_,_=>.no
 |_,_=>.no
def TD (I:Alg) (T:Tab) (hp:List HO) (ty:Ty) (c:C) (i:Int):QR:=
 match ty with
 | .array n e=>match c,zfg i,T e with
   |.ptr k off,some j,some te=>(match Nat.blt j n with|true=>okc (.ptr k (off+j * te.size))|false=>.no)
   |.ept u k i0 off,_,some te=>(match Nat.beq te.size u.size,zfg i0,off with|true,some 0,0=>.need (I.inb i (Int.ofNat n)) (okc (.ept u k i 0))|_,_,_=>.no)
   |_,_,_=>.no
 | .slice e=>match T e with
   |none=>.no
   | some te=>match c with
     |.p (.list u l)=>(match Nat.beq te.size u.size with|true=>.need (I.inb i (I.len l)) (okc (.fpt u l i 0))|false=>.no)
     |.row k=>(match nth hp k with|some (.row u _ l)=>(match Nat.beq te.size u.size with|true=>.need (I.inb i (I.len l)) (okc (.ept u k i 0))|false=>.no)|some (.rws u _ _ l _)=>(match Nat.beq te.size u.size with|true=>.need (I.inb i (I.len l)) (okc (.ept u k i 0))|false=>.no)|_=>.no)
     |.sub u k lo hi=>(match nth hp k with|some (.row u' _ _)=>(match Nat.beq te.size u.size,Nat.beq u.size u'.size with|true,true=>.need (I.inb i (I.sub hi lo)) (okc (.ept u k (I.add lo i) 0))|_,_=>.no)|_=>.no)
     |_=>.no
 |_=>.no
def zkk (T:Tab) (ty:Ty) (f:Nat) (cs:List C):QR:=
 match ty with
 | .struct fs=>match nth fs f with
   |some (off,t)=>(match T t with|some e=>fetch e ((cs.drop off).take e.size)|none=>.no)
   |none=>.no
 |_=>.no
def zmD (I:Alg) (T:Tab) (hp:List HO) (src dst:Ty) (c:C):QR:=
 match dst,c with
 |.int k,.p (.int _ n)=>okp (.int k (I.wrap k n))
 |.str,.p (.str s)=>okp (.str s)
 | .str,c=>match src with
   | .slice e=>match T e with
     |some ⟨.int .u8,_,_,_,_⟩=>(match cont I hp c with|some ⟨.byte,l⟩=>okp (.str l)|_=>match c with|.nilS=>okp (.str [])|_=>.no)
     |_=>.no
   |_=>.no
 |_,_=>.no
def lay:List C→Nat→List C→List C
 |cs,_,[]=>cs
 |cs,o,d::ds=>lay (cs.set o d) (o+1) ds
def cellsOf:D→Option (List C)
 |.v (.one c)=>some [c]
 |.v (.agg cs)=>some cs
 |_=>none
def layAll (place:Nat→Option (Nat × Nat)):List C→List (Nat × Option D)→Option (List C)
 |cs,[]=>some cs
 | cs,(i,d)::r=>match place i,d with
   | some (o,n),some d=>(match cellsOf d with
     |some ds=>(match Nat.beq ds.length n,Nat.ble (o+n) cs.length with|true,true=>layAll place (lay cs o ds) r|_,_=>none)
     |none=>none)
   |_,_=>none
def places (T:Tab):List (Nat × Nat)→Option (List (Nat × Nat))
 |[]=>some []
 |(o,t)::r=>match T t,places T r with|some te,some l=>some ((o,te.size)::l)|_,_=>none
def zko (T:Tab) (e:TE) (parts:List (Nat × Option D)):QR:=
 match e.zero with
 |none=>.no
 | some z=>match e.ty with
   | .struct fs=>(match places T fs with
     |some pl=>(match layAll (nth pl) (z.map zc) parts with|some cs=>.ok (.v (.agg cs))|none=>.no)
     |none=>.no)
   | .array _ el=>(match T el with
     |some te=>(match layAll (fun i=>some (i * te.size,te.size)) (z.map zc) parts with|some cs=>.ok (.v (.agg cs))|none=>.no)
     |none=>.no)
   |_=>.no
def oneC:Option D→Option C
 |some (.v (.one c))=>some c
 |_=>none
def intC:Option D→Option Int
 |some (.v (.one (.p (.int _ n))))=>some n
 |_=>none
def nilP (I:Alg) (hp:List HO) (c:C) (yes no:Bool):QR:=
 match c with
 |.nilS=>okp (.val (.bool yes))
 | c=>match cont I hp c with
   |some ⟨_,l⟩=>.br (I.ieq (I.len l) 0) (.both (okp (.val (.bool yes))) (okp (.val (.bool no)))) (okp (.val (.bool no)))
   |none=>.no
def nilQ (I:Alg) (hp:List HO) (op:BinOp) (ty:Ty) (c:C):QR:=
 match ty,op with
 |.slice _,.eql=>nilP I hp c true false
 |.slice _,.neq=>nilP I hp c false true
 |_,_=>.no
def zha:Operand→Bool
 |.const .nilIface=>true
 |_=>false
def zj7 (op:BinOp) (ty:Ty) (c:C):QR:=
 match ty,c,op with
 |.iface,.ifc _ _ _,.eql=>okp (.val (.bool false))
 |.iface,.ifc _ _ _,.neq=>okp (.val (.bool true))
 |.iface,.p (.val .nilIface),.eql=>okp (.val (.bool true))
 |.iface,.p (.val .nilIface),.neq=>okp (.val (.bool false))
 |_,_,_=>.no
def ziu (t:Nat) (ty:Ty) (c:C):QR:=
 match ty with
 |.int _=>(match c with|.ifc t' false [p]=>(match Nat.beq t' t with|true=>.ok (.tup [.one (.p p),.one (.p (.val (.bool true)))])|false=>.no)|_=>.no)
 |.struct _=>(match c with|.ifc t' true ps=>(match Nat.beq t' t with|true=>.ok (.tup [.agg (ps.map C.p),.one (.p (.val (.bool true)))])|false=>.no)|_=>.no)
 |_=>.no
def qop (I:Alg) (T:Tab) (st:St):Op→QR
 |.move x=>match st.eval x with|some d=>.ok d|none=>.no
 |.assign x=>match st.eval x with|some d=>.ok d|none=>.no
 | .pick c a b=>match oneC (st.eval c) with
   |some (.p (.val (.bool true)))=>(match st.eval a with|some d=>.ok d|none=>.no)
   |some (.p (.val (.bool false)))=>(match st.eval b with|some d=>.ok d|none=>.no)
   |_=>.no
 |.load t x=>match T t,oneC (st.eval x) with|some e,some c=>zjm I st.hp e c|_,_=>.no
 | .nilCheck x=>match st.eval x with
   |some (.v (.one (.ptr k o)))=>okc (.ptr k o)
   |some (.v (.one (.ept u k i o)))=>okc (.ept u k i o)
   |some (.v (.one (.fpt u l i o)))=>okc (.fpt u l i o)
   |some (.v (.one (.fn f caps)))=>okc (.fn f caps)
   |_=>.no
 |.typeAssert x _ t true=>match T t,oneC (st.eval x) with|some e,some c=>ziu t e.ty c|_,_=>.no
 | .binOp op t x y _=>match zha y with
  |true=>(match T t,oneC (st.eval x) with|some e,some c=>zj7 op e.ty c|_,_=>.no)
  |false=>match T t,oneC (st.eval x),oneC (st.eval y) with
   |some e,some a,some .nilS=>nilQ I st.hp op e.ty a
   |some e,some a,some b=>binQ I op e.ty a b
   |some e,none,none=>(match st.eval x,st.eval y with|some (.v (.agg cs)),some (.v (.agg ds))=>aggQ I T op e.ty cs ds|_,_=>.no)
   |_,_,_=>.no
 | .unOp op _ x=>match op,oneC (st.eval x) with
   |.not,some (.p (.bool b))=>okp (.bool (I.bnot b))
   |.not,some (.p (.val (.bool true)))=>okp (.val (.bool false))
   |.not,some (.p (.val (.bool false)))=>okp (.val (.bool true))
   |.neg,some (.p (.int k n))=>SS I k (I.sub 0 n)
   |_,_=>.no
 |.convert s d x=>match T s,T d,oneC (st.eval x) with|some es,some ed,some c=>zmD I T st.hp es.ty ed.ty c|_,_,_=>.no
 | .makeInterface t x=>match T t,st.eval x with
   | some e,some d=>(match e.ty with
     |.other=>.no
     |.iface=>.no
     | _=>match d with
       |.v (.one c)=>(match e.zero with|some z=>(match uY z [c] with|some [p]=>okc (.ifc t false [p])|_=>.no)|none=>.no)
       |.v (.agg cs)=>(match e.zero with|some z=>(match uY z cs with|some ps=>okc (.ifc t true ps)|none=>.no)|none=>.no)
       |_=>.no)
   |_,_=>.no
 | .slice t x lo hi none=>match T t,oneC (st.eval x) with
   | some e,some c=>
     let sz:=match e.ty with|.slice el=>(match T el with|some te=>te.size|none=>0)|.array _ el=>(match T el with|some te=>te.size|none=>0)|_=>0
     match lo,hi with
      |none,none=>UR I st.hp e.ty sz c none none
      |some l,none=>(match intC (st.eval l) with|some n=>UR I st.hp e.ty sz c (some n) none|none=>.no)
      |none,some h=>(match intC (st.eval h) with|some n=>UR I st.hp e.ty sz c none (some n)|none=>.no)
      |some l,some h=>(match intC (st.eval l),intC (st.eval h) with|some n,some m=>UR I st.hp e.ty sz c (some n) (some m)|_,_=>.no)
   |_,_=>.no
 | .slice t x none (some h) (some m)=>match T t,oneC (st.eval x),intC (st.eval h),intC (st.eval m) with
   | some e,some (.row k),some n',some m'=>(match e.ty,nth st.hp k with
     | .slice el,some (.row u _ l)=>(match T el with
       | some te=>(match Nat.beq te.size u.size with
         |true=>.need (I.same n' m') (.need (I.cutb 0 n' (I.len l)) (okc (.sub u k 0 n')))
         |false=>.no)
       |none=>.no)
     |_,_=>.no)
   |_,_,_,_=>.no
 | .fieldAddr t x f=>match T t,oneC (st.eval x) with
   | some e,some c=>(match e.ty with
     | .struct fs=>(match nth fs f with
       | some (o,tf)=>(match T tf with
         | some te=>(match Nat.blt 0 te.size,c with
           |true,.ptr k off=>okc (.ptr k (off+o))
           |true,.ept u k i off=>okc (.ept u k i (off+o))
           |true,.fpt u l i off=>okc (.fpt u l i (off+o))
           |_,_=>.no)
         |none=>.no)
       |none=>.no)
     |_=>.no)
   |_,_=>.no
 | .field t x f=>match T t,st.eval x with
   |some e,some (.v (.agg cs))=>zkk T e.ty f cs
   |_,_=>.no
 |.indexAddr t x i=>match T t,oneC (st.eval x),intC (st.eval i) with|some e,some c,some n=>TD I T st.hp e.ty c n|_,_,_=>.no
 | .index t x i=>match T t,st.eval x,intC (st.eval i) with
   |some e,some (.v (.one (.p (.str l)))),some n=>(match e.ty with|.str=>.need (I.inb n (I.len l)) (okp (.int .u8 (I.b2i (I.get l 0 n))))|_=>.no)
   |_,_,_=>.no
 | .extract x i=>match st.eval x with
   |some (.tup l)=>(match nth l i with|some v=>.ok (.v v)|none=>.no)
   |_=>.no
 |.build t parts=>match T t with|some e=>zko T e (parts.toList.map fun p=>(p.1,st.eval p.2))|none=>.no
 | .call c=>match c.callee,c.args.toList with
   |.builtin .len,[x]=>(match oneC (st.eval x),c.argTypes.toList with|some v,[t]=>(match T t with|some e=>(match lenQ I st.hp e.ty v with|some n=>okp (.int .i64 n)|none=>.no)|none=>.no)|_,_=>.no)
   |.builtin .cap,[x]=>(match oneC (st.eval x),c.argTypes.toList with|some .nilS,[t]=>(match T t with|some ⟨.slice _,_,_,_,_⟩=>okp (.int .i64 0)|_=>.no)|_,_=>.no)
   |.builtin .min,[x,y]=>(match oneC (st.eval x),oneC (st.eval y) with|some (.p (.int k a)),some (.p (.int k' b))=>(match zaL k k' with|true=>okp (.int k (I.imin a b))|false=>.no)|_,_=>.no)
   |.builtin .max,[x,y]=>(match oneC (st.eval x),oneC (st.eval y) with|some (.p (.int k a)),some (.p (.int k' b))=>(match zaL k k' with|true=>okp (.int k (I.imax a b))|false=>.no)|_,_=>.no)
   |_,_=>.no
 |_=>.no
end Go.Ab
namespace Go.Ab
open Go Go.Sep
variable [Facts]
structure Sit (Pr:Program) (T:Tab) (S:Frz) (K:List CO) (fr:List Chunk) (st:St) (a:Act) (w:World):Prop where
 tab:T.fits Pr
 hr:HR S (K.map CO.base) st.hp K
 at_:At w (frzC S::(CO.zl K++fr))
 env:Env S (K.map CO.base) st a
theorem zcT (c:UInt8):alg.b2i c=(c.toNat:Int):=rfl
theorem ziC (n:Int):alg.i2b n=UInt8.ofNat n.toNat:=rfl
theorem vF (x y:Int):alg.add x y=x+y:=rfl
theorem rP (x y:Int):alg.sub x y=x - y:=rfl
theorem zcQ (x y:Int):alg.mul x y=x * y:=rfl
theorem zcP (x y:Int):alg.quo x y=x.tdiv y:=rfl
theorem ziB (x y:Int):alg.rem x y=x.tmod y:=rfl
theorem zeF (k:IntKind) (n:Int):alg.wrap k n=k.wrap n:=rfl
theorem QW (x y:Int):alg.imin x y=if x≤y then x else y:=rfl
theorem QX (x y:Int):alg.imax x y=if x≤y then y else x:=rfl
theorem XD (x y:Int):alg.ilt x y=decide (x<y):=rfl
theorem QY (x y:Int):alg.ile x y=decide (x≤y):=rfl
theorem qI (x y:Int):alg.ieq x y=(x == y):=rfl
theorem vX (b:Bool):alg.bnot b= !b:=rfl
theorem UB (a b:Bool):alg.beq a b=(a == b):=rfl
theorem zcS (a b:Bool):alg.ban a b=(a&&b):=rfl
theorem UA (a b:Str):alg.seq a b=(a == b):=rfl
theorem yh {α:Type} (l:List α):alg.len l=(l.length:Int):=rfl
theorem XE {α:Type} (x y:List α):alg.app x y=x++y:=rfl
theorem vS {α:Type} (l:List α) (a b:Int):alg.cut l a b=(l.drop a.toNat).take (b.toNat - a.toNat):=rfl
theorem ZU {α:Type} (l:List α) (d:α) (i:Int):alg.get l d i=l.getD i.toNat d:=rfl
theorem Uz {α:Type} (l:List α) (i:Int) (x:α):alg.set l i x=l.set i.toNat x:=rfl
theorem XC {α:Type} (n:Int) (x:α):alg.rep n x=List.replicate n.toNat x:=rfl
theorem zcR (k:IntKind) (n:Int):alg.inr k n=(k.min≤n∧n≤k.max):=rfl
theorem vP (i n:Int):alg.inb i n=(0≤i∧i<n):=rfl
theorem Xb (l h n:Int):alg.cutb l h n=(0≤l∧l≤h∧h≤n):=rfl
theorem wU {α:Type} (x y:α):alg.same x y=(x=y):=rfl
theorem tJ (n m:Int):alg.few n m=(n≤m):=rfl
theorem QV (n:Int):alg.nne n=(n≠0):=rfl
theorem ZT (n:Int):alg.nng n=(0≤n):=rfl
section
variable {Pr:Program} {T:Tab} {S:Frz} {K:List CO} {fr:List Chunk} {st:St} {a:Act} {w:World} {W:World→Prop}
def Yields (Pr:Program) (a:Act) (W:World→Prop) (o:Oper) (v:Value):Prop:=∀ w,W w→(execOp a.eval o).run Pr w=.ok (.value v) w
def Cls (S:Frz) (K:List CO) (W:World→Prop):Prop:=∀ w,W w→∃ S' fr,S.le S'∧At w (frzC S'::(CO.zl K++fr))
theorem Tab.get (h:T.fits Pr) {t:Nat} {e:TE} (he:T t=some e):e.fits Pr T t=true:=h t e he
theorem TE.und {t:Nat} {e:TE} (h:e.fits Pr T t=true): ∃ d i,Pr.underlying t=some d∧Pr.info? t=some i∧e.ty.fits d=true∧i.size=e.size∧i.bytes=e.bytes:=by
 unfold TE.fits at h
 split at h
 · rename_i d i h1 h2
   simp only [jJ,beq_iff_eq] at h;exact⟨d,i,h1,h2,h.1.1.1.1.2,h.1.1.1.2,h.1.1.2⟩
 · cases h
theorem TE.eqs {t:Nat} {e:TE} (h:e.fits Pr T t=true) {fs:List (Nat × Nat)} (hty:e.ty=.struct fs) (hp:XI T fs=true) {gs:Array Field} (hu:Pr.underlying t=some (.struct gs)):(∀ f ∈ gs.toList,f.name≠ "_")∧Pr.stoodInHeld t=false:=by
 unfold TE.fits at h
 split at h
 · rename_i d i h1 h2
   simp only [jJ,beq_iff_eq] at h;have h3:=h.1.1.1.1.1;rw [hu] at h1;cases h1;rw [hty] at h3;simp only [zkm,hp,Bool.not_true,Bool.false_or,jJ,List.all_eq_true,Bool.not_eq_true'] at h3
   exact⟨fun f hf=>by simpa using h3.1 f hf,h3.2⟩
 · cases h
theorem TE.size' {t:Nat} {e:TE} (h:e.fits Pr T t=true):(Pr.info? t).map (·.size)=some e.size:=by
 obtain⟨d,i,_,h2,_,h4,_⟩:=TE.und h;rw [h2,← h4];rfl
theorem TE.zero' {t:Nat} {e:TE} (h:e.fits Pr T t=true) {z:List P} (hz:e.zero=some z): ∃ i v,Pr.info? t=some i∧i.zero=some v∧yC v.cells.toList z=true∧z.length=e.size:=by
 unfold TE.fits at h
 split at h
 · rename_i d i h1 h2
   simp only [jJ,beq_iff_eq,hz] at h;have h3:=h.1.2
   split at h3
   · rename_i v hv;simp only [jJ,beq_iff_eq] at h3;exact⟨i,v,h2,hv,h3.1,h3.2⟩
   · cases h3
 · cases h
theorem TE.elem {t:Nat} {e:TE} (h:e.fits Pr T t=true) {u:U} (hu:e.u=some u): ∃ el ee,e.ty=.slice el∧T el=some ee∧ee.size=u.size∧0<u.size:=by
 unfold TE.fits at h
 split at h
 · rename_i d i h1 h2
   simp only [jJ,hu] at h;have h3:=h.2
   split at h3
   · rename_i el hel
     split at h3
     · rename_i ee hee;simp only [jJ,beq_iff_eq,decide_eq_true_eq] at h3;exact⟨el,ee,hel,hee,h3.1,h3.2⟩
     · cases h3
   · cases h3
 · cases h
theorem yu {e:Nat} {d:TypeDesc} (h:(Ty.slice e).fits d=true):d=.slice e:=by
 cases d<;>simp [Ty.fits] at h
 rw [h]
theorem rG {d:TypeDesc} (h:Ty.str.fits d=true):d=.string:=by cases d<;>simp [Ty.fits] at h;rfl
theorem fits_bool {d:TypeDesc} (h:Ty.bool.fits d=true):d=.bool:=by cases d<;>simp [Ty.fits] at h;rfl
theorem zjM {d:TypeDesc} (h:Ty.ptr.fits d=true): ∃ e,d=.pointer e:=by cases d<;>simp [Ty.fits] at h;exact⟨_,rfl⟩
theorem fits_int {k:IntKind} {d:TypeDesc} (h:(Ty.int k).fits d=true):d=.int k:=by
 cases d<;>simp [Ty.fits] at h
 rw [vV h]
theorem uq {fs:List (Nat × Nat)} {d:TypeDesc} (h:(Ty.struct fs).fits d=true): ∃ gs,d=.struct gs∧gs.toList.map (fun f=>(f.offset,f.type))=fs:=by
 cases d<;>simp [Ty.fits] at h
 exact⟨_,rfl,h⟩
theorem Xu {n e:Nat} {d:TypeDesc} (h:(Ty.array n e).fits d=true):d=.array n e:=by
 cases d<;>simp [Ty.fits] at h
 rw [h.1,h.2]
theorem zed {ty:Ty} {d:TypeDesc} (h:ty.fits d=true) (hr:qB ty=true):d.isRow=true:=by
 cases ty<;>simp [qB] at hr<;>cases d<;>simp [Ty.fits] at h<;>rfl
theorem Yx {v:Value} {c:C} (h:zb6 v=some c) (bs:List Value):MC S bs c v:=by
 unfold zb6 at h
 split at h<;>try(simp at h;done)
 · cases h;exact .int _ _
 · cases h;exact .val _ rfl
 · cases h;exact .val _ rfl
 · rename_i s
   split at h
   · rename_i hs
     rw [zie] at h;cases h
     have h1:s.data.toList.length≤100000:=by simpa using hs
     have:=MP.str (S:=S) s.data.toList (by unfold maxLen;omega)
     rw [S_of] at this;exact this
   · cases h
 · cases h;rfl
 · cases h;exact .val _ rfl
 · cases h;exact .val _ rfl
 · cases h;exact .val _ rfl
theorem Sit.eval (h:Sit Pr T S K fr st a w) {x:Operand} {d:D} (hx:st.eval x=some d):MD S (K.map CO.base) d (a.eval x):=by
 cases x with
 |tmp t=>exact h.env.slots t d hx
 | const v=>
   simp only [St.eval] at hx
   split at hx
   · rename_i c hc;cases hx;exact Yx hc _
   · cases hx
 |func f=>simp only [St.eval,jr] at hx;subst hx;exact⟨[],trivial,rfl⟩
 |global g=>cases hx
theorem Sit.one (h:Sit Pr T S K fr st a w) {x:Operand} {c:C} (hx:oneC (st.eval x)=some c):MC S (K.map CO.base) c (a.eval x):=by
 unfold oneC at hx
 split at hx
 · rename_i c' hc;cases hx;exact h.eval hc
 · cases hx
theorem Sit.int (h:Sit Pr T S K fr st a w) {x:Operand} {n:Int} (hx:intC (st.eval x)=some n): ∃ k,a.eval x=.int k n:=by
 unfold intC at hx
 split at hx
 · rename_i k n' hc;cases hx;have:=h.eval hc;generalize a.eval x=v at this;cases this;exact⟨_,rfl⟩
 · cases hx
theorem Zo: ∀ {K:List CO} {k:Nat} {c:CO},K[k]? =some c→(CO.zl K)[k]? =some c.chunk:=by
 intro K k c h;rw [CO.Y0];simp [h]
theorem Sit.chunk (h:Sit Pr T S K fr st a w) {k:Nat} {c:CO} (hc:K[k]? =some c): ∃ l,At w (c.chunk::l):=by
 have h1:=h.at_.tail;have hlt:=(jh.1 (Zo hc)).1
 exact⟨_,h1.pull k c.chunk (by rw [jw hlt];exact Zo hc)⟩
theorem Cls.chunk (h:Cls S K W) (hw:W w) {k:Nat} {c:CO} (hc:K[k]? =some c): ∃ l,At w (c.chunk::l):=by
 obtain⟨S',fr,_,h⟩:=h w hw;have h1:=h.tail;have hlt:=(jh.1 (Zo hc)).1
 exact⟨_,h1.pull k c.chunk (by rw [jw hlt];exact Zo hc)⟩
theorem Cls.on (h:Cls S K W) (hw:W w):S.on w:=by
 obtain⟨S',fr,hle,h⟩:=h w hw;exact(At.frz h).mono hle
theorem Sit.on (h:Sit Pr T S K fr st a w):S.on w:=At.frz h.at_
theorem Sit.obj (h:Sit Pr T S K fr st a w) {k ty:Nat} {cs:List C} (ho:st.hp[k]? =some (.obj ty cs)): ∃ b vs l,K[k]? =some (.obj b ty vs)∧MCs S (K.map CO.base) cs vs∧At w (objC b ty vs::l):=by
 obtain⟨c,hc,hr⟩:=h.hr.get ho
 cases hr with
 |obj hm=>obtain⟨l,hl⟩:=h.chunk hc;exact⟨_,_,l,hc,hm,hl⟩
theorem Sit.row (h:Sit Pr T S K fr st a w) {k E:Nat} {u:U} {l:List u.den} (ho:st.hp[k]? =some (.row u E l)): ∃ ao cap vs,K[k]? =some (.row E u.size ao l.length cap vs)∧vs.length=l.length * u.size∧
  (∀ (i:Nat) (x:u.den) (j:Nat) (p:P) (v:Value),l[i]? =some x→(enc alg u x)[j]? =some p→vs[i * u.size+j]? =some v→MP S p v)∧Rd w u.size (.slice ao l.length cap) l.length vs:=by
 obtain⟨c,hc,hr⟩:=h.hr.get ho
 cases hr with
 |row hlen hx=>obtain⟨l',hl⟩:=h.chunk hc;exact⟨_,_,_,hc,hlen,hx,At.rd hl⟩
structure ziI (S:Frz) (K:List CO) (w:World) (k:Nat) (u:U) (E Eb:Nat) (l:List u.den) (h:Option (Int × Nat)) (o:Nat) (ao:Option Addr) (cap:Nat) (vs:List Value) (R:List CO):Prop where
 at_:K[k]? =some (.pack (.row E u.size ao l.length cap vs::R))
 own:ownU u=some o
 len:vs.length=l.length * u.size
 rows:R.length=l.length
 cells: ∀ (i:Nat) (x:u.den) (j:Nat) (p:P) (v:Value),l[i]? =some x→(enc alg u x)[j]? =some p→j≠o→vs[i * u.size+j]? =some v→MP S p v
 bytes: ∀ (i:Nat) (x:u.den) (v:Value) (c:CO),l[i]? =some x→vs[i * u.size+o]? =some v→R[i]? =some c→OwnC (K.map CO.base) Eb (rX h i) (ownB u x) c v
theorem HR.rws {S:Frz} {K:List CO} {hp:List HO} {w:World} (hr:HR S (K.map CO.base) hp K) {k:Nat} {u:U} {E Eb:Nat} {l:List u.den} {h:Option (Int × Nat)} (ho:hp[k]? =some (.rws u E Eb l h)):
  ∃ o ao cap vs R,ziI S K w k u E Eb l h o ao cap vs R:=by
 obtain⟨c,hc,hrel⟩:=hr.get ho
 cases hrel with
 |rws h1 h2 h3 h4 h5=>exact⟨_,_,_,_,_,hc,h1,h2,h3,h4,h5⟩
theorem At.TF {w:World} {c:CO} {R:List CO} {L:List Chunk} (H:At w ((CO.pack (c::R)).chunk::L)):At w (c.chunk::(CO.zl R++L)):=by
 have:=At.many.1 (show At w (sepC (CO.zl (c::R))::L) from H)
 simpa [CO.zl] using this
theorem Cls.rws (h:Cls S K W) (hw:W w) {k:Nat} {c:CO} {R:List CO} (hc:K[k]? =some (.pack (c::R))): ∃ l,At w (c.chunk::l):=by
 obtain⟨l,hl⟩:=h.chunk hw hc;exact⟨_,At.TF hl⟩
theorem zS {k:Nat} {c:CO} (h:K[k]? =some c):(K.map CO.base)[k]? =some c.base:=by simp [h]
theorem Xy {S:Frz} {u:U} {l:List u.den} {vs:List Value} (hlen:vs.length=l.length * u.size)
  (hx: ∀ (i:Nat) (x:u.den) (j:Nat) (p:P) (v:Value),l[i]? =some x→(enc alg u x)[j]? =some p→vs[i * u.size+j]? =some v→MP S p v) {i:Int} (hi:alg.inb i (alg.len l)):
  MPs S (enc alg u (alg.get l (dflt u) i)) ((vs.drop (i.toNat * u.size)).take u.size)∧((vs.drop (i.toNat * u.size)).take u.size).length=u.size:=by
 rw [vP,yh] at hi;rw [ZU]
 have h1:i.toNat<l.length:=by omega
 have h2:i.toNat * u.size+u.size≤vs.length:=by
  rw [hlen,← Nat.succ_mul];exact Nat.mul_le_mul_right _ h1
 have h3:((vs.drop (i.toNat * u.size)).take u.size).length=u.size:=by simp;omega
 refine⟨MPs.Td (by rw [h3];exact(yJ alg u _).symm) fun j p v hp hv=> ?_,h3⟩
 rw [jC] at hv
 split at hv
 · rw [jF] at hv
   refine hx i.toNat _ j p v (ji h1) ?_ hv
   simpa [h1] using hp
 · cases hv
theorem Ui {e:TE} {cs:List C} {vs:List Value} {Q:D→Prop} (h:(fetch e cs).holds Q) (hm:MCs S (K.map CO.base) cs vs):
  (qB e.ty=true∧cs.length=e.size∧Q (.v (.agg cs)))∨(qB e.ty=false∧∃ c v,cs=[c]∧vs=[v]∧MC S (K.map CO.base) c v∧Q (.v (.one c))):=by
 unfold fetch at h
 split at h
 · rename_i hr
   split at h
   · rename_i hl;exact .inl ⟨hr,jH hl,h⟩
   · exact h.elim
 · rename_i hr
   split at h
   · rename_i c
     cases vs with
     |nil=>exact hm.elim
     | cons v vs=>cases vs with
       |nil=>exact .inr ⟨hr,c,v,rfl,rfl,hm.1,h⟩
       |cons _ _=>exact hm.2.elim
   · exact h.elim
theorem Zm {ty:Ty} {d:TypeDesc} (h:ty.fits d=true) (hr:qB ty=false):d.isRow=false:=by
 cases ty<;>simp [qB] at hr<;>cases d<;>first|rfl|(simp [Ty.fits] at h;done)|(simpa [Ty.fits] using h)
def yP (Pr:Program) (S:Frz) (K:List CO) (a:Act) (W:World→Prop) (o:Oper) (r:QR):Prop:=
 ∀ Q:D→Prop,r.holds Q→∃ v d,Yields Pr a W o v∧MD S (K.map CO.base) d v∧Q d
variable {dst:Option Tmp} {ty:TypeId} {pos:String} {af:Array Edge} {gd:Option (Nat × Bool)}
theorem zff (h:Sit Pr T S K fr st a w) (hW:Cls S K W) {t:Nat} {x:Operand}:yP Pr S K a W ⟨dst,.load t x,ty,pos,af,gd⟩ (qop alg T st (.load t x)):=by
 intro Q hq;simp only [qop] at hq
 split at hq
 · rename_i e c he hc
   have hf:=Tab.get h.tab he;obtain⟨d,i,hu,hi,hty,hsz,-⟩:=TE.und hf;have hc':=h.one hc;generalize hx:a.eval x=pv at hc'
   have go: ∀ {cs:List C} {vs:List Value} {p:Addr},p.spot=none→pv=.pointer (some p)→(fetch e cs).holds Q→MCs S (K.map CO.base) cs vs→(∀ w,W w→∀ j v,vs[j]? =some v→w.cell? ⟨p.block,p.off+j,none⟩=some v)→
     ∃ v d,Yields Pr a W ⟨dst,.load t x,ty,pos,af,gd⟩ v∧MD S (K.map CO.base) d v∧Q d:=by
    intro cs vs p hsp hp hq hm hcell;obtain⟨b,o,s⟩:=p;cases hsp
    rcases Ui hq hm with⟨hr,hl,hQ⟩|⟨hr,c1,v1,rfl,rfl,hm1,hQ⟩
    · refine⟨.agg vs.toArray,.v (.agg cs),fun w hw=>zjS hu (zed hty hr) (cs:=vs) ?_ (hx.trans hp) (hcell w hw),⟨vs,hm,rfl⟩,hQ⟩
      rw [TE.size' hf,hm.length,hl]
    · refine⟨v1,.v (.one c1),fun w hw=>zh hu (Zm hty hr) (hx.trans hp) (hcell w hw 0 v1 rfl),hm1,hQ⟩
   cases c with
   | ptr k off=>
     obtain⟨b,hb,rfl⟩:=hc';simp only [zjm] at hq
     split at hq
     · rename_i T' cs ho
       rw [yc] at ho;obtain⟨b',vs,l,hk,hm,hat⟩:=h.obj ho
       have:b'=b:=by have:=zS hk;rw [this] at hb;simp [CO.base] at hb;exact hb
       subst this;refine go rfl rfl hq (hm.slice off e.size) fun w' hw' j v hj=> ?_;obtain⟨l',hat'⟩:=hW.chunk hw' hk;have:=At.cell (show At w' (objC b' T' vs::l') from hat') (off+j);rw [jC] at hj
       split at hj
       · rw [jF] at hj;rw [this,hj]
       · cases hj
     · exact hq.elim
   | ept u k i off=>
     obtain⟨ao,n,cap,hb,hi0,rfl⟩:=hc';simp only [zjm] at hq
     split at hq
     · rename_i u' E l ho
       split at hq
       · rename_i hus
         have hus:=jH hus;obtain⟨hin,hq⟩:=hq;rw [yc] at ho;obtain⟨ao',cap',vs,hk,hlen,hx',hrd⟩:=h.row ho;have hbk:=zS hk;rw [hbk] at hb;simp only [CO.base,jr,Value.slice.injEq] at hb;obtain⟨rfl,rfl,rfl⟩:=hb;obtain⟨hm,hl2⟩:=Xy hlen hx' hin;refine go rfl rfl hq ((hm.mcs (bs:=K.map CO.base)).slice off e.size) fun w' hw' j v hj=> ?_;obtain⟨l',hat'⟩:=hW.chunk hw' hk;have hrd:=At.rd (show At w' (rowC E u'.size (.slice ao' l.length cap') l.length vs::l') from hat');rw [jC] at hj
         split at hj
         · rw [jF,jC] at hj
           split at hj
           · rw [jF] at hj
             obtain⟨hjl,hje⟩:=jh.1 hj;have:=hrd.cell hjl;rw [hje] at this
             simpa [adr,hus,Nat.add_assoc] using this
           · cases hj
         · cases hj
       · exact hq.elim
     · rename_i u' E Eb l i' m ho
       split at hq
       · rename_i o hus hown hrow
         have hus:=jH hus
         split at hq
         · rename_i hoff
           have hoff:=jH hoff;subst hoff;obtain⟨hsame,hin,hq⟩:=hq;rw [wU] at hsame;subst hsame;rw [yc] at ho;obtain⟨o,ao',cap',vs,R,hA⟩:=HR.rws (w:=w) h.hr ho;have hoo:=hA.own;rw [hown] at hoo;cases hoo;have hbk:=zS hA.at_;rw [hbk] at hb;simp only [CO.base,CO.zlG,jr,Value.slice.injEq] at hb;obtain⟨rfl,rfl,rfl⟩:=hb;rw [vP,yh] at hin
           have hil:i.toNat<l.length:=by omega
           have hol:=zdD hown
           have hlt:i.toNat * u'.size+off<vs.length:=by
            rw [hA.len]
            have:i.toNat * u'.size+u'.size≤l.length * u'.size:=by rw [← Nat.succ_mul];exact Nat.mul_le_mul_right _ hil
            omega
           have hoc:=hA.bytes i.toNat _ _ _ (ji hil) (ji hlt) (ji (by rw [hA.rows];exact hil))
           rw [show rX (some (i,m)) i.toNat=some m by simp [rX]] at hoc
           refine⟨vs[i.toNat * u'.size+off],.v (.one (.row m)),fun w' hw'=> ?_,hoc,hq⟩;obtain⟨l',hat'⟩:=hW.rws hw' hA.at_;have hrd:=At.rd (show At w' (rowC E u'.size (.slice ao' l.length cap') l.length vs::l') from hat');have:=hrd.cell hlt;rw [hus] at hx
           exact zh hu (Zm hty hrow) hx (by simpa [adr,Nat.add_assoc] using this)
         · exact hq.elim
       · exact hq.elim
     · exact hq.elim
   | fpt u l i off=>
     obtain⟨ao,cap,vs,hlen,hrs,hx',hi0,rfl⟩:=hc';simp only [zjm] at hq;obtain⟨hin,hq⟩:=hq;obtain⟨hm,hl2⟩:=Xy hlen hx' hin;refine go rfl rfl hq ((hm.mcs (bs:=K.map CO.base)).slice off e.size) fun w' hw' j v hj=> ?_;have hrd:=hrs w' (hW.on hw');rw [jC] at hj
     split at hj
     · rw [jF,jC] at hj
       split at hj
       · rw [jF] at hj
         obtain⟨hjl,hje⟩:=jh.1 hj;have:=hrd.cell hjl;rw [hje] at this
         simpa [adr,Nat.add_assoc] using this
       · cases hj
     · cases hj
   |p x=>exact hq.elim
   |row k=>exact hq.elim
   |sub u k lo hi=>exact hq.elim
   |nilS=>exact hq.elim
   |fn f caps=>exact hq.elim
   |ifc T agg cs=>exact hq.elim
   |any=>exact hq.elim
 · exact hq.elim
end
end Go.Ab
namespace Go.Ab
open Go Go.Sep
variable [Facts]
section
variable {Pr:Program} {T:Tab} {S:Frz} {K:List CO} {fr:List Chunk} {st:St} {a:Act} {w:World} {W:World→Prop}
variable {dst:Option Tmp} {ty:TypeId} {pos:String} {af:Array Edge} {gd:Option (Nat × Bool)}
theorem zkr {k:IntKind} {n:Int} (h:alg.inr k n):k.wrap n=n:=by
 rw [zcR] at h;obtain⟨h1,h2⟩:=h
 cases k<;>simp [IntKind.min,IntKind.max,IntKind.signed,IntKind.bits] at h1 h2<;>simp [IntKind.wrap,IntKind.signed,IntKind.bits]<;>omega
theorem ze9 (h:Sit Pr T S K fr st a w) {x:Operand}:yP Pr S K a W ⟨dst,.move x,ty,pos,af,gd⟩ (qop alg T st (.move x)):=by
 intro Q hq;simp only [qop] at hq
 split at hq
 · rename_i d hd;exact⟨_,d,fun _ _=>rfl,h.eval hd,hq⟩
 · exact hq.elim
theorem zbD (h:Sit Pr T S K fr st a w) {x:Operand}:yP Pr S K a W ⟨dst,.assign x,ty,pos,af,gd⟩ (qop alg T st (.assign x)):=by
 intro Q hq;simp only [qop] at hq
 split at hq
 · rename_i d hd;exact⟨_,d,fun _ _=>rfl,h.eval hd,hq⟩
 · exact hq.elim
theorem ze1 (h:Sit Pr T S K fr st a w) {c x y:Operand}:yP Pr S K a W ⟨dst,.pick c x y,ty,pos,af,gd⟩ (qop alg T st (.pick c x y)):=by
 intro Q hq;simp only [qop] at hq
 split at hq
 · rename_i hc
   have hb:=h.one hc;generalize hcv:a.eval c=v at hb;cases hb
   split at hq
   · rename_i d hd;exact⟨_,d,by simp [Yields,execOp,hcv,asBool],h.eval hd,hq⟩
   · exact hq.elim
 · rename_i hc
   have hb:=h.one hc;generalize hcv:a.eval c=v at hb;cases hb
   split at hq
   · rename_i d hd;exact⟨_,d,by simp [Yields,execOp,hcv,asBool],h.eval hd,hq⟩
   · exact hq.elim
 · exact hq.elim
theorem UH (h:Sit Pr T S K fr st a w) {x:Operand}:yP Pr S K a W ⟨dst,.nilCheck x,ty,pos,af,gd⟩ (qop alg T st (.nilCheck x)):=by
 intro Q hq;simp only [qop] at hq
 split at hq
 · rename_i k o hx
   have hm:=h.eval hx;have hm0:=hm;generalize hv:a.eval x=v at hm hm0;obtain⟨b,_,rfl⟩:=hm
   exact⟨_,_,by simp only [Yields,execOp,hv];intro _ _;rfl,hm0,hq⟩
 · rename_i u k i o hx
   have hm:=h.eval hx;have hm0:=hm;generalize hv:a.eval x=v at hm hm0;obtain⟨_,_,_,_,_,rfl⟩:=hm
   exact⟨_,_,by simp only [Yields,execOp,hv];intro _ _;rfl,hm0,hq⟩
 · rename_i u l i o hx
   have hm:=h.eval hx;have hm0:=hm;generalize hv:a.eval x=v at hm hm0;obtain⟨_,_,_,_,_,_,_,rfl⟩:=hm
   exact⟨_,_,by simp only [Yields,execOp,hv];intro _ _;rfl,hm0,hq⟩
 · rename_i f caps hx
   have hm:=h.eval hx;have hm0:=hm;generalize hv:a.eval x=v at hm hm0;obtain⟨_,_,rfl⟩:=hm
   exact⟨_,_,by simp only [Yields,execOp,hv];intro _ _;rfl,hm0,hq⟩
 · exact hq.elim
theorem zD {o:Oper} {p:P} {v:Value} (hy:Yields Pr a W o v) (hm:MP S p v):yP Pr S K a W o (okp p):=fun _ hq=>⟨v,.v (.one (.p p)),hy,hm,hq⟩
theorem zU {o:Oper} {p:Prop} {r:QR} (h:p→yP Pr S K a W o r):yP Pr S K a W o (.need p r):=fun Q hq=>h hq.1 Q hq.2
theorem zo {o:Oper}:yP Pr S K a W o .no:=fun _ hq=>hq.elim
theorem uG {o:Oper} {k:IntKind} {n:Int} (hy:Yields Pr a W o (.int k (k.wrap n))):yP Pr S K a W o (SS alg k n):=
 zU fun hn=>by rw [zkr hn] at hy;exact zD hy (.int _ _)
theorem zlF {t yt:Nat} {x y:Operand} {op:BinOp} {k:IntKind} {m n:Int} (hx:a.eval x=.int k m) (hy:a.eval y=.int k n) (hs:zch op=false):
  yP Pr S K a W ⟨dst,.binOp op t x y yt,ty,pos,af,gd⟩ (intQ alg op k m n):=by
 cases op<;>simp only [zch,Bool.true_eq_false] at hs<;>simp only [intQ]
 case add=>exact uG (by simp [Yields,execOp,hx,hy,eqGuard,binOp,Op.intArith,vF])
 case sub=>exact uG (by simp [Yields,execOp,hx,hy,eqGuard,binOp,Op.intArith,rP])
 case mul=>exact uG (by simp [Yields,execOp,hx,hy,eqGuard,binOp,Op.intArith,zcQ])
 case quo=>refine zU fun h0=>uG ?_;rw [QV] at h0;simp [Yields,execOp,hx,hy,eqGuard,binOp,Op.intDiv,h0,zcP]
 case rem=>refine zU fun h0=>zD (v:=.int k (m.tmod n)) ?_ (.int _ _);rw [QV] at h0;simp [Yields,execOp,hx,hy,eqGuard,binOp,Op.intDiv,h0]
 case and=>exact zD (v:=.int k (alg.bits .and k m n)) (by simp [Yields,execOp,hx,hy,eqGuard,binOp,Op.intBits,alg]) (.int _ _)
 case or=>exact zD (v:=.int k (alg.bits .or k m n)) (by simp [Yields,execOp,hx,hy,eqGuard,binOp,Op.intBits,alg]) (.int _ _)
 case xor=>exact zD (v:=.int k (alg.bits .xor k m n)) (by simp [Yields,execOp,hx,hy,eqGuard,binOp,Op.intBits,alg]) (.int _ _)
 case eql=>exact zD (v:=.bool (alg.ieq m n)) (by simp [Yields,execOp,hx,hy,eqGuard,binOp,Op.intCmp,qI]) (.bool _)
 case neq=>exact zD (v:=.bool (alg.bnot (alg.ieq m n))) (by simp [Yields,execOp,hx,hy,eqGuard,binOp,Op.intCmp,qI,vX,bne]) (.bool _)
 case lss=>exact zD (v:=.bool (alg.ilt m n)) (by simp [Yields,execOp,hx,hy,eqGuard,binOp,Op.intCmp,XD]) (.bool _)
 case leq=>exact zD (v:=.bool (alg.ile m n)) (by simp [Yields,execOp,hx,hy,eqGuard,binOp,Op.intCmp,QY]) (.bool _)
 case gtr=>exact zD (v:=.bool (alg.ilt n m)) (by simp [Yields,execOp,hx,hy,eqGuard,binOp,Op.intCmp,XD]) (.bool _)
 case geq=>exact zD (v:=.bool (alg.ile n m)) (by simp [Yields,execOp,hx,hy,eqGuard,binOp,Op.intCmp,QY]) (.bool _)
 all_goals exact zo
theorem ziq {t yt:Nat} {x y:Operand} {op:BinOp} {k k':IntKind} {m n:Int} (hx:a.eval x=.int k m) (hy:a.eval y=.int k' n):
  yP Pr S K a W ⟨dst,.binOp op t x y yt,ty,pos,af,gd⟩ (zf6 alg op k m n):=by
 cases op<;>simp only [zf6]<;>try exact zo
 · refine zU fun h0=> ?_
   rw [ZT] at h0
   exact zD (v:=.int k (alg.shl k m n)) (by simp [Yields,execOp,hx,hy,eqGuard,binOp,Op.shift,show ¬ n<0 by omega];intro _ _;rfl) (.int _ _)
 · refine zU fun h0=>zU fun h1=>zU fun h2=> ?_
   rw [ZT] at h0;rw [tJ] at h1 h2;refine zD (v:=.int k (alg.shr m n)) ?_ (.int _ _)
   have e1:min n.toNat k.bits=n.toNat:=by omega
   have e2:min n.toNat 64=n.toNat:=by omega
   simp [Yields,execOp,hx,hy,eqGuard,binOp,Op.shift,show ¬ n<0 by omega,e1]
   intro _ _;simp only [alg,e2]
theorem zlE {t yt:Nat} {x y:Operand} {op:BinOp} {m n:Str} (hx:a.eval x=.string (Sep.S m)) (hy:a.eval y=.string (Sep.S n)):
  yP Pr S K a W ⟨dst,.binOp op t x y yt,ty,pos,af,gd⟩ (strQ alg op m n):=by
 cases op<;>simp only [strQ]<;>try exact zo
 · refine zU fun h0=> ?_
   rw [tJ,vF,yh,yh] at h0
   refine zD (v:=.string (Sep.S (alg.app m n))) ?_ (.str _ (by rw [XE,jg];unfold maxLen;omega))
   simp [Yields,execOp,hx,hy,eqGuard,binOp,Op.stringOp,zjX,XE]
   omega
 · exact zD (v:=.bool (alg.seq m n)) (by simp [Yields,execOp,hx,hy,eqGuard,binOp,Op.stringOp,UA]) (.bool _)
 · exact zD (v:=.bool (alg.bnot (alg.seq m n))) (by simp [Yields,execOp,hx,hy,eqGuard,binOp,Op.stringOp,UA,vX]) (.bool _)
theorem rM {c:C} {b:Bool} {bs:List Value} {v:Value} (h:zfE c=some b) (hm:MC S bs c v):v=.bool b:=by
 unfold zfE at h
 split at h
 · cases h;cases hm;rfl
 · cases h;cases hm;rfl
 · cases h
theorem run_equal_bool {t:Nat} (ht:Pr.underlying t=some .bool) (b c:Bool):(Op.equal t (.bool b) (.bool c)).run Pr w=.ok (b == c) w:=by
 unfold Op.equal Op.maxDepth Op.equalIn
 simp [run_underlying ht]
theorem rV {t e:Nat} (ht:Pr.underlying t=some (.pointer e)) (p:Addr):(Op.equal t (.pointer (some p)) (.pointer none)).run Pr w=.ok false w:=by
 unfold Op.equal Op.maxDepth Op.equalIn
 simp [run_underlying ht]
theorem qw {t e:Nat} (ht:Pr.underlying t=some (.slice e)) (ao:Option Addr) (n cap:Nat):(Op.equal t (.slice ao n cap) (.slice none 0 0)).run Pr w=.ok ao.isNone w:=by
 unfold Op.equal Op.maxDepth Op.equalIn
 cases ao<;>simp [run_underlying ht]
theorem Sit.zmE (h:Sit Pr T S K fr st a w) {c:C} {v:Value} (hm:MC S (K.map CO.base) c v) {u:U} {l:List u.den} (hc:cont alg st.hp c=some ⟨u,l⟩):
  ∃ ao cap vs,v=.slice ao l.length cap∧l.length≤cap∧vs.length=l.length * u.size∧(∀ W:World→Prop,Cls S K W→∀ w,W w→Rd w u.size v l.length vs)∧
    (∀ (i:Nat) (x:u.den) (j:Nat) (p:P) (v:Value),l[i]? =some x→(enc alg u x)[j]? =some p→vs[i * u.size+j]? =some v→MP S p v):=by
 unfold Ab.cont at hc
 split at hc
 · cases hc
   cases hm with
   | list u l ao cap vs hlen hr hx=>
     have:=hr w h.on;have this2:=this;obtain⟨_,_,e,hnc,_⟩:=this2;cases e;exact⟨ao,cap,vs,rfl,hnc,hlen,fun W hW w hw=>hr w (hW.on hw),hx⟩
 · cases hc
   cases hm with
   | nl l v h0 hm=>cases hm with
     | list u l ao cap vs hlen hr hx=>
       have:=hr w h.on;have this2:=this;obtain⟨_,_,e,hnc,_⟩:=this2;cases e;exact⟨ao,cap,vs,rfl,hnc,hlen,fun W hW w hw=>hr w (hW.on hw),hx⟩
 · rename_i k
   split at hc
   · rename_i ho
     cases hc;rw [yc] at ho;obtain⟨ao,cap,vs,hk,hlen,hx,hrd⟩:=h.row ho;have hb:=hm.1;rw [zS hk] at hb;cases hb;have this2:=hrd;obtain⟨_,_,e,hnc,_⟩:=this2;cases e
     exact⟨ao,cap,vs,rfl,hnc,hlen,fun W hW w hw=>by obtain⟨l,hl⟩:=hW.chunk hw hk;exact At.rd hl,hx⟩
   · cases hc
 · rename_i u0 k lo hi
   split at hc
   · rename_i u' E l' ho
     split at hc
     · rename_i hus
       have hus:=jH hus;cases hc;rw [yc] at ho;obtain⟨ao,cap,vs,hk,hlen,hx,hrd⟩:=h.row ho;obtain⟨ao',n',cap',hb,h0,h00,hsub⟩:=hm;rw [zS hk] at hb;simp only [CO.base,jr,Value.slice.injEq] at hb;obtain⟨rfl,rfl,rfl⟩:=hb;rw [hus] at hsub;have hsub0:=hsub;have hs:=hsub.rd hrd;obtain⟨ao2,cap2,e,h1,h2,hnc,-⟩:=hsub
       have hn:(alg.cut l' lo hi).length=hi.toNat - lo.toNat:=by rw [vS];simp;omega
       have hl2:=hs.len
       have hsW: ∀ W:World→Prop,Cls S K W→∀ w,W w→Rd w u.size v (hi.toNat - lo.toNat) ((vs.drop (lo.toNat * u.size)).take ((hi.toNat - lo.toNat) * u.size)):=fun W hW w hw=>by
        obtain⟨l,hl⟩:=hW.chunk hw hk;exact hsub0.rd (At.rd hl)
       rw [← hn] at hs e hnc hl2 hsW;refine⟨ao2,cap2,_,e,hnc,hl2,hsW,fun i x j p v hi' hj hv=> ?_⟩;rw [vS,jC] at hi'
       split at hi'
       · rename_i hlt
         rw [jF] at hi';refine hx (lo.toNat+i) x j p v hi' hj ?_;rw [jC] at hv
         split at hv
         · rw [jF] at hv
           rw [← hv]
           congr 1
           rw [Nat.add_mul];omega
         · cases hv
       · cases hi'
     · cases hc
   · cases hc
 · cases hc
theorem Sit.cls (h:Sit Pr T S K fr st a w):Cls S K fun w'=>w'=w:=fun _ e=>by cases e;exact⟨S,fr,Frz.le.refl S,h.at_⟩
theorem Sit.cont (h:Sit Pr T S K fr st a w) {c:C} {v:Value} (hm:MC S (K.map CO.base) c v) {u:U} {l:List u.den} (hc:cont alg st.hp c=some ⟨u,l⟩):
  ∃ ao cap vs,v=.slice ao l.length cap∧l.length≤cap∧vs.length=l.length * u.size∧Rd w u.size v l.length vs∧
    (∀ (i:Nat) (x:u.den) (j:Nat) (p:P) (v:Value),l[i]? =some x→(enc alg u x)[j]? =some p→vs[i * u.size+j]? =some v→MP S p v):=by
 obtain⟨ao,cap,vs,h1,h2,h3,h4,h5⟩:=h.zmE hm hc;exact⟨ao,cap,vs,h1,h2,h3,h4 _ h.cls w rfl,h5⟩
theorem zdF (h:Sit Pr T S K fr st a w) {o:Oper} {c:C} {v:Value} (hm:MC S (K.map CO.base) c v) (pos:Bool) (hy: ∀ ao n cap,v=.slice ao n cap→Yields Pr a W o (.bool (if pos then ao.isNone else !ao.isNone))):
  yP Pr S K a W o (nilP alg st.hp c pos !pos):=by
 unfold nilP
 split
 · have hm:v=.slice none 0 0:=by assumption
   have:=hy none 0 0 hm
   exact zD (v:=.bool pos) (by simpa using this) (.val _ rfl)
 · split
   · rename_i u l hc
     obtain⟨ao,cap,vs,rfl,hnc,hlen,hrd,hxs⟩:=h.cont hm hc;have hy:=hy ao _ cap rfl;intro Q hq;obtain⟨h1,h2⟩:=hq
     cases ao with
     | none=>
       obtain⟨_,_,e,_,_,h0,_⟩:=hrd;cases e;have h0:=h0 rfl
       have hl0:l.length=0:=by omega
       have:=(h1 (by rw [qI,yh,hl0];rfl)).1
       exact zD (v:=.bool pos) (by simpa using hy) (.val _ rfl) Q this
     | some ad=>
       have:(okp (.val (.bool !pos))).holds Q:=by
        cases hb:alg.ieq (alg.len l) 0 with
        |true=>exact(h1 hb).2
        |false=>exact h2 hb
       exact zD (v:=.bool !pos) (by cases pos<;>simpa using hy) (.val _ rfl) Q this
   · exact zo
theorem zh6 {S:Frz} {bs:List Value} {ty:Ty} {d:TypeDesc} {t:Nat} (hu:Pr.underlying t=some d) (hf:ty.fits d=true) {x y:C} {v u:Value} {b:Bool} (h:eqC alg ty x y=some b) (hx:MC S bs x v) (hy:MC S bs y u) (w:World) (D:Nat):
  (Op.equalIn (D+1) t v u).run Pr w=.ok b w:=by
 unfold eqC at h
 split at h
 · have:=rG hf
   subst this
   split at h
   · cases h;cases hx;cases hy
     rw [run_equalIn_string w D t _ _ hu,UA,ByteArray.toList_eq,ByteArray.toList_eq,Xc,Xc]
   · cases h
 · rename_i k
   have:=fits_int hf;subst this
   split at h
   · split at h
     · rename_i hk
       have:=vV hk;subst this;cases h;cases hx;cases hy;rw [run_equalIn_int w D t _ _ _ _ hu,qI]
     · cases h
   · cases h
 · have:=fits_bool hf
   subst this
   split at h
   · rename_i a b' ha hb
     cases h;have e1:=rM ha hx;have e2:=rM hb hy;subst e1;subst e2;rw [run_equalIn_bool w D t _ _ hu,UB]
   · cases h
 · cases h
theorem ze0 {ty:Ty} {d:TypeDesc} (hp:U5 ty=true) (hf:ty.fits d=true):d.isRow=false:=Zm hf (by cases ty<;>simp [U5] at hp<;>rfl)
theorem zar {t:Nat} {d:TypeDesc} (hu:Pr.underlying t=some d) (hr:d.isRow=false) {vs:List Value} {o:Nat} {v:Value} (hv:vs[o]? =some v) (w:World):(part t vs.toArray o).run Pr w=.ok v w:=by
 have:vs.toArray[o]? =some v:=by simpa using hv
 cases d<;>simp [TypeDesc.isRow] at hr<;>simp [part,isAgg,run_underlying hu,this]
theorem SI (htab:T.fits Pr) {S:Frz} {bs:List Value} {cs ds:List C} {vs us:List Value} (hc:MCs S bs cs vs) (hd:MCs S bs ds us) (w:World) (D:Nat): ∀ (gs:List Field) (b:Bool),(∀ f ∈ gs,f.name≠ "_")→XI T (gs.map fun f=>(f.offset,f.type))=true→
  eqFs alg T cs ds (gs.map fun f=>(f.offset,f.type))=some b→(Op.eqFields (D+1) vs.toArray us.toArray gs).run Pr w=.ok b w
 |[],b,_,_,h=>by simp [eqFs] at h
 | g ::gs,b,hn,hp,h=>by
   simp only [List.map_cons,eqFs] at h;simp only [List.map_cons,XI] at hp
   split at h
   · rename_i c d e h1 h2 he
     rw [he] at hp;simp only [jJ] at hp;rw [yc] at h1 h2;obtain⟨v,hv,hmv⟩:=hc.get h1;obtain⟨u,hu,hmu⟩:=hd.get h2;obtain⟨td,i,hund,_,hty,-⟩:=TE.und (Tab.get htab he);have hr:=ze0 hp.1 hty;have p1:=zar hund hr hv w;have p2:=zar hund hr hu w
     have hn1:=hn g (by simp)
     split at h
     · rename_i b1 hb1
       have p3:=zh6 hund hty hb1 hmv hmu w D;simp only [Op.eqFields,hn1,ne_eq,not_false_eq_true,if_true,Sem.run_bind,p1,p2,p3,Result.andThen_ok]
       split at h
       · rename_i hnil
         cases h
         have:gs=[]:=by cases gs with|nil=>rfl|cons _ _=>cases hnil
         subst this
         cases b<;>simp [Op.eqFields]
       · split at h
         · rename_i b2 hb2
           cases h
           have ih:=SI htab hc hd w D gs b2 (fun f hf=>hn f (by simp [hf])) hp.2 hb2
           rw [zcS];cases b1
           · simp
           · simpa using ih
         · cases h
     · cases h
   · cases h
theorem X7 {t:Nat} {d:TypeDesc} (hu:Pr.underlying t=some d) {ty:Ty} (hp:U5 ty=true) (hf:ty.fits d=true) (D:Nat):Pr.eqGuardType (D+1) t=false:=by
 cases ty<;>simp [U5] at hp
 · have:=fits_bool hf;subst this;simp [Program.eqGuardType,hu]
 · have:=fits_int hf;subst this;simp [Program.eqGuardType,hu]
 · have:=rG hf;subst this;simp [Program.eqGuardType,hu]
theorem U6 (htab:T.fits Pr): ∀ {fs:List (Nat × Nat)},XI T fs=true→∀ p ∈ fs,∃ e d,T p.2=some e∧U5 e.ty=true∧Pr.underlying p.2=some d∧e.ty.fits d=true
 |[],_,p,hm=>by simp at hm
 | (o, t)::r,h,p,hm=>by
   simp only [XI] at h
   split at h
   · rename_i e he
     simp only [jJ] at h
     rcases List.mem_cons.1 hm with rfl|hm
     · obtain⟨d,i,hund,_,hty,-⟩:=TE.und (Tab.get htab he)
       exact⟨e,d,he,h.1,hund,hty⟩
     · exact U6 htab h.2 p hm
   · cases h
theorem zfI (h:Sit Pr T S K fr st a w) {op:BinOp} {t yt:Nat} {x y:Operand} {e:TE} {cs ds:List C} (he:T t=some e) (hx:st.eval x=some (.v (.agg cs))) (hy:st.eval y=some (.v (.agg ds))):
  yP Pr S K a W ⟨dst,.binOp op t x y yt,ty,pos,af,gd⟩ (aggQ alg T op e.ty cs ds):=by
 obtain⟨d,i,hu,hi,hty,-⟩:=TE.und (Tab.get h.tab he);obtain⟨vs,hc,hxv⟩:=h.eval hx;obtain⟨us,hd,hyv⟩:=h.eval hy;unfold aggQ
 split
 · rename_i fs hfs
   split
   · rename_i b hp hb
     rw [hfs] at hty;obtain⟨gs,rfl,hgs⟩:=uq hty;obtain⟨hn,hst⟩:=TE.eqs (Tab.get h.tab he) hfs hp hu
     have hfo:Pr.fieldsOf t=gs:=by simp [Program.fieldsOf,hu]
     have heq: ∀ w,(Op.equal t (.agg vs.toArray) (.agg us.toArray)).run Pr w=.ok b w:=fun w=>by
      show(Op.equalIn (9999+1) t _ _).run Pr w=_
      rw [run_equalIn_struct w 9999 t _ _ (by rw [hfo];exact hu) hst,hfo]
      exact SI h.tab hc hd w 9998 gs.toList b hn (by rw [hgs];exact hp) (by rw [hgs];exact hb)
     have hgt: ∀ n,Pr.eqGuardType (n+1+1) t=false:=fun n=>by
      unfold Program.eqGuardType;simp only [hu];rw [← Array.any_toList];rw [List.any_eq_false];intro f hf
      obtain⟨e',d',_,hp',hu',hf'⟩:=U6 h.tab hp (f.offset,f.type) (by rw [← hgs];exact List.mem_map_of_mem hf)
      simp [X7 hu' hp' hf']
     have hgd:Pr.eqGuardType Pr.depth t=false:=by
      obtain⟨n,hn⟩: ∃ n,Pr.depth=n+1+1:=by unfold Program.depth;exact⟨_,rfl⟩
      rw [hn];exact hgt n
     have hg: ∀ w,(eqGuard op t x y (.agg vs.toArray) (.agg us.toArray)).run Pr w=.ok () w:=fun w=>run_eqGuard_agg w op t x y _ _ hgd
     split
     · exact zD (v:=.bool b) (fun w _=>by simp [execOp,hxv,hyv,hg,binOp,heq]) (.bool _)
     · exact zD (v:=.bool (alg.bnot b)) (fun w _=>by simp [execOp,hxv,hyv,hg,binOp,heq,vX]) (.bool _)
     · exact zo
   · exact zo
 · exact zo
theorem Zn {d:TypeDesc} (h:Ty.iface.fits d=true): ∃ ms,d=.interface ms:=by cases d<;>simp [Ty.fits] at h;exact⟨_,rfl⟩
theorem zhe {S:Frz} {bs:List Value} {T0:Nat} {ag:Bool} {ps:List P} {v:Value} (h:MC S bs (.ifc T0 ag ps) v): ∃ u,v=.iface T0 u:=by
 cases ag with
 | false=>
   cases ps with
   |nil=>exact h.elim
   | cons p ps=>
     cases ps with
     |nil=>obtain⟨x,_,rfl⟩:=h;exact⟨_,rfl⟩
     |cons q qs=>exact h.elim
 |true=>obtain⟨vs,_,rfl⟩:=h;exact⟨_,rfl⟩
theorem uJ {t:Nat} {ms} (ht:Pr.underlying t=some (.interface ms)) (T0:Nat) (u:Value):(Op.equal t (.iface T0 u) .nilIface).run Pr w=.ok false w:=by
 unfold Op.equal Op.maxDepth Op.equalIn
 simp [run_underlying ht]
theorem rW {t:Nat} {ms} (ht:Pr.underlying t=some (.interface ms)):(Op.equal t .nilIface .nilIface).run Pr w=.ok true w:=by
 unfold Op.equal Op.maxDepth Op.equalIn
 simp [run_underlying ht]
theorem zbE (h:Sit Pr T S K fr st a w) {x:Operand} {xt t:Nat} {ok:Bool}:yP Pr S K a W ⟨dst,.typeAssert x xt t ok,ty,pos,af,gd⟩ (qop alg T st (.typeAssert x xt t ok)):=by
 cases ok with
 |false=>exact zo
 |true=>
 simp only [qop]
 split
 · rename_i e c he hc
   have hm:=h.one hc;obtain⟨d,i,hu,hi,hty,-⟩:=TE.und (Tab.get h.tab he);generalize hx:a.eval x=xv at hm;unfold ziu
   split
   · rename_i k hety
     rw [hety] at hty;have:=fits_int hty;subst this
     split
     · rename_i t' p
       split
       · rename_i hb
         obtain rfl:=jH hb;obtain⟨v,h1,rfl⟩:=hm
         exact fun Q hq=>⟨.tuple #[v,.bool true],.tup [.one (.p p),.one (.p (.val (.bool true)))],by simp [Yields,execOp,hx,Instr.typeAssert,run_underlying hu],⟨[v,.bool true],⟨h1,.val _ rfl,trivial⟩,rfl⟩,hq⟩
       · exact zo
     · exact zo
   · rename_i fs hety
     rw [hety] at hty;obtain⟨gs,rfl,_⟩:=uq hty
     split
     · rename_i t' ps
       split
       · rename_i hb
         obtain rfl:=jH hb;obtain⟨vs,h1,rfl⟩:=hm
         exact fun Q hq=>⟨.tuple #[.agg vs.toArray,.bool true],.tup [.agg (ps.map C.p),.one (.p (.val (.bool true)))],by simp [Yields,execOp,hx,Instr.typeAssert,run_underlying hu],⟨[.agg vs.toArray,.bool true],⟨⟨vs,h1.mcs,rfl⟩,.val _ rfl,trivial⟩,rfl⟩,hq⟩
       · exact zo
     · exact zo
   · exact zo
 · exact zo
theorem zcK (h:Sit Pr T S K fr st a w) {op:BinOp} {t yt:Nat} {x y:Operand}:yP Pr S K a W ⟨dst,.binOp op t x y yt,ty,pos,af,gd⟩ (qop alg T st (.binOp op t x y yt)):=by
 simp only [qop]
 split
 · rename_i hk
   have hy0:a.eval y=.nilIface:=by
    unfold zha at hk
    split at hk
    · rfl
    · cases hk
   have hyc:y=.const .nilIface:=by
    unfold zha at hk
    split at hk
    · rfl
    · cases hk
   split
   · rename_i e c he hc
     have hm:=h.one hc;obtain⟨d,i,hu,hi,hty,-⟩:=TE.und (Tab.get h.tab he);generalize hx:a.eval x=xv at hm;subst hyc;unfold zj7
     split
     · rename_i T0 ag ps hety
       rw [hety] at hty;obtain⟨ms,rfl⟩:=Zn hty;obtain⟨u,hv⟩:=zhe hm
       exact zD (v:=.bool false) (by simp [Yields,execOp,hx,hv,hy0,eqGuard,binOp,uJ hu]) (.val _ rfl)
     · rename_i T0 ag ps hety
       rw [hety] at hty;obtain⟨ms,rfl⟩:=Zn hty;obtain⟨u,hv⟩:=zhe hm
       exact zD (v:=.bool true) (by simp [Yields,execOp,hx,hv,hy0,eqGuard,binOp,uJ hu]) (.val _ rfl)
     · rename_i hety
       rw [hety] at hty;obtain⟨ms,rfl⟩:=Zn hty;cases hm
       exact zD (v:=.bool true) (by simp [Yields,execOp,hx,hy0,eqGuard,binOp,rW hu]) (.val _ rfl)
     · rename_i hety
       rw [hety] at hty;obtain⟨ms,rfl⟩:=Zn hty;cases hm
       exact zD (v:=.bool false) (by simp [Yields,execOp,hx,hy0,eqGuard,binOp,rW hu]) (.val _ rfl)
     · exact zo
   · exact zo
 split
 · rename_i e c he hc hc'
   have hm:=h.one hc;have hm':=h.one hc';obtain⟨d,i,hu,hi,hty,-⟩:=TE.und (Tab.get h.tab he);generalize hx:a.eval x=xv at hm;generalize hy:a.eval y=yv at hm';cases hm';unfold nilQ
   split
   · rename_i el hety
     rw [hety] at hty;have:=yu hty;subst this
     exact zdF (o:=⟨dst,.binOp .eql t x y yt,ty,pos,af,gd⟩) h hm true fun ao n cap e=>by simp [Yields,execOp,hx,hy,e,eqGuard,binOp,qw hu]
   · rename_i el hety
     rw [hety] at hty;have:=yu hty;subst this
     exact zdF (o:=⟨dst,.binOp .neq t x y yt,ty,pos,af,gd⟩) h hm false fun ao n cap e=>by simp [Yields,execOp,hx,hy,e,eqGuard,binOp,qw hu]
   · exact zo
 · rename_i e c c' hno he hc hc'
   have hm:=h.one hc;have hm':=h.one hc';obtain⟨d,i,hu,hi,hty,-⟩:=TE.und (Tab.get h.tab he);generalize hx:a.eval x=xv at hm;generalize hy:a.eval y=yv at hm';unfold binQ
   split
   · cases hm;cases hm'
     split
     · exact ziq hx hy
     · rename_i hs
       split
       · rename_i hk
         have:=vV hk;subst this;exact zlF hx hy hs
       · exact zo
   · cases hm;cases hm';exact zlE hx hy
   · obtain⟨b,_,rfl⟩:=hm
     cases hm'
     split
     · rename_i hety
       rw [hety] at hty;obtain⟨e',rfl⟩:=zjM hty
       split
       · exact zD (v:=.bool false) (by simp [Yields,execOp,hx,hy,eqGuard,binOp,rV hu]) (.val _ rfl)
       · exact zD (v:=.bool true) (by simp [Yields,execOp,hx,hy,eqGuard,binOp,rV hu]) (.val _ rfl)
       · exact zo
     · exact zo
   · split
     · rename_i b b' hety hb hb'
       rw [hety] at hty;have:=fits_bool hty;subst this;have e1:=rM hb hm;have e2:=rM hb' hm';subst e1;subst e2
       split
       · exact zD (v:=.bool (alg.beq b b')) (by simp [Yields,execOp,hx,hy,eqGuard,binOp,run_equal_bool hu,UB]) (.bool _)
       · exact zD (v:=.bool (alg.bnot (alg.beq b b'))) (by simp [Yields,execOp,hx,hy,eqGuard,binOp,run_equal_bool hu,UB,vX]) (.bool _)
       · exact zo
     · exact zo
 · rename_i e he _ _
   split
   · rename_i cs ds hx hy;exact zfI h he hx hy
   · exact zo
 · exact zo
theorem zeL (h:Sit Pr T S K fr st a w) {op:UnOp} {t:Nat} {x:Operand}:yP Pr S K a W ⟨dst,.unOp op t x,ty,pos,af,gd⟩ (qop alg T st (.unOp op t x)):=by
 simp only [qop]
 split
 · rename_i b hc
   have hm:=h.one hc;generalize hx:a.eval x=xv at hm;cases hm
   exact zD (v:=.bool (alg.bnot b)) (by simp [Yields,execOp,hx,Op.unary,vX]) (.bool _)
 · rename_i hc
   have hm:=h.one hc;generalize hx:a.eval x=xv at hm;cases hm
   exact zD (v:=.bool false) (by simp [Yields,execOp,hx,Op.unary]) (.val _ rfl)
 · rename_i hc
   have hm:=h.one hc;generalize hx:a.eval x=xv at hm;cases hm
   exact zD (v:=.bool true) (by simp [Yields,execOp,hx,Op.unary]) (.val _ rfl)
 · rename_i k n hc
   have hm:=h.one hc;generalize hx:a.eval x=xv at hm;cases hm
   exact uG (by simp [Yields,execOp,hx,Op.unary,Op.intArith,rP])
 · exact zo
theorem Ut {S:Frz} {l:Str} {vs:List Value} (hlen:vs.length=l.length * U.byte.size)
  (hx: ∀ (i:Nat) (x:U.byte.den) (j:Nat) (p:P) (v:Value),l[i]? =some x→(enc alg .byte x)[j]? =some p→vs[i * U.byte.size+j]? =some v→MP S p v):vs=bvs l:=by
 apply List.ext_getElem?;intro i;rw [bvs_getElem?]
 have hl:vs.length=l.length:=by simpa [U.size] using hlen
 rcases Nat.lt_or_ge i l.length with hi|hi
 · have h1:l[i]? =some l[i]:=ji hi
   have h2:vs[i]? =some vs[i]:=ji (by omega)
   have:=hx i l[i] 0 (.int .u8 (alg.b2i l[i])) vs[i] h1 rfl (by simpa [U.size] using h2)
   rw [h1,h2];generalize vs[i]=v at this;cases this;rfl
 · rw [List.getElem?_eq_none (by omega),List.getElem?_eq_none (by omega)];rfl
theorem QE (h:Sit Pr T S K fr st a w) (hW:Cls S K W) {s d:Nat} {x:Operand}:yP Pr S K a W ⟨dst,.convert s d x,ty,pos,af,gd⟩ (qop alg T st (.convert s d x)):=by
 simp only [qop]
 split
 · rename_i es ed c hes hed hc
   have hm:=h.one hc;obtain⟨ds,is,hus,-,htys,-⟩:=TE.und (Tab.get h.tab hes);obtain⟨dd,id,hud,-,htyd,-⟩:=TE.und (Tab.get h.tab hed);generalize hx:a.eval x=xv at hm;unfold zmD
   split
   · rename_i k k' n hk
     rw [hk] at htyd;have:=fits_int htyd;subst this;cases hm;refine zD (v:=.int k (k.wrap n)) ?_ (.int _ _)
     cases ds<;>simp [Yields,execOp,hx,convert,run_underlying hus,run_underlying hud,Conv.intToInt]
   · rename_i l hk
     rw [hk] at htyd;have:=rG htyd;subst this
     cases hm with
     | str _ hl=>
       refine zD (v:=.string (Sep.S l)) ?_ (.str _ hl)
       cases ds<;>simp [Yields,execOp,hx,convert,run_underlying hus,run_underlying hud]
   · rename_i hk _
     rw [hk] at htyd;have:=rG htyd;subst this
     split
     · rename_i el hel
       rw [hel] at htys;have:=yu htys;subst this
       split
       · rename_i b1 b2 b3 b4 hte
         obtain⟨de,ie,hue,-,htye,-⟩:=TE.und (Tab.get h.tab hte);have:=fits_int htye;subst this
         split
         · rename_i l hcont
           obtain⟨ao,cap,vs,rfl,hnc,hlen,hrdW,hxs⟩:=h.zmE hm hcont;have hrd:=hrdW _ h.cls w rfl;have:=Ut hlen hxs;subst this;have hle:=hrd.le;refine zD (v:=.string (Sep.S l)) (fun w hw=>zL hus hue hud hx (hrdW _ hW w hw)) (.str _ ?_);obtain⟨_,_,e,h1,h2,_⟩:=hrd;cases e;exact Nat.le_trans h1 h2
         · split
           · cases hm
             have hrd: ∀ w,Rd w 1 (.slice none 0 0) 0 (bvs []):=fun w=>⟨none,0,rfl,jK _,jL _,fun _=>rfl,rfl,fun j u h=>by simp [bvs] at h⟩
             exact zD (v:=.string (Sep.S [])) (fun w _=>zL hus hue hud hx (hrd w)) (.str _ (jL _))
           · exact zo
       · exact zo
     · exact zo
   · exact zo
 · exact zo
end
end Go.Ab
namespace Go.Ab
open Go Go.Sep
variable [Facts]
section
variable {Pr:Program} {T:Tab} {S:Frz} {K:List CO} {fr:List Chunk} {st:St} {a:Act} {w:World} {W:World→Prop}
variable {dst:Option Tmp} {ty:TypeId} {pos:String} {af:Array Edge} {gd:Option (Nat × Bool)}
theorem yN {o:Oper} {c:C} {v:Value} (hy:Yields Pr a W o v) (hm:MC S (K.map CO.base) c v):yP Pr S K a W o (okc c):=fun _ hq=>⟨v,.v (.one c),hy,hm,hq⟩
theorem Vf (u:U):0<u.size:=by cases u<;>decide
theorem Yy {S:Frz} (u:U):MP S (.list u []) (.slice none 0 0):=
 .list u [] none 0 [] (by simp) (fun w _=>⟨none,0,rfl,jK _,jL _,fun _=>rfl,by simp,fun j u h=>by simp at h⟩) (fun i x j p v h=>by simp at h)
theorem U1 {S:Frz} {bs:List Value} {z:P} {c:C} {p:P} {v:Value} (h:purC z c=some p) (hm:MC S bs c v):MP S p v:=by
 unfold purC at h
 split at h
 · cases h;exact hm
 · split at h
   · cases h;cases hm;exact Yy _
   · cases h;cases hm;exact .nl [] _ (fun _=>rfl) (Yy _)
   · cases h
 · cases h
theorem yT {S:Frz} {bs:List Value}: ∀ {zs:List P} {cs:List C} {ps:List P} {vs:List Value},uY zs cs=some ps→MCs S bs cs vs→MPs S ps vs
 |[],[],ps,vs,h,hm=>by cases h;cases vs with|nil=>trivial|cons _ _=>exact hm.elim
 | z ::zs,c::cs,ps,vs,h,hm=>by
   simp only [uY] at h
   split at h
   · rename_i p ps' h1 h2
     cases h
     cases vs with
     |nil=>exact hm.elim
     |cons v vs=>exact⟨U1 h1 hm.1,yT h2 hm.2⟩
   · cases h
 |[],_::_,_,_,h,_=>by cases h
 |_::_,[],_,_,h,_=>by cases h
theorem ZH (h:Sit Pr T S K fr st a w) {t:Nat} {x:Operand}:yP Pr S K a W ⟨dst,.makeInterface t x,ty,pos,af,gd⟩ (qop alg T st (.makeInterface t x)):=by
 simp only [qop]
 split
 · rename_i e d he hd
   have hm:=h.eval hd;obtain⟨ds,i,hu,-,hty,-⟩:=TE.und (Tab.get h.tab he);generalize hx:a.eval x=xv at hm
   split
   · exact zo
   · exact zo
   · rename_i hno hnf
     have hy:Yields Pr a W ⟨dst,.makeInterface t x,ty,pos,af,gd⟩ (.iface t xv):=by
      cases hety:e.ty<;>rw [hety] at hty<;>first|(exact(hno hety).elim)|(exact(hnf hety).elim)|(cases ds<;>first|(simp [Ty.fits] at hty;done)|simp [Yields,execOp,hx,Instr.makeInterface,run_underlying hu])
     split
     · rename_i c
       split
       · rename_i z hz
         split
         · rename_i p hp
           have h1:=yT hp (vs:=[xv]) ⟨hm,trivial⟩;exact yN hy ⟨xv,h1.1,rfl⟩
         · exact zo
       · exact zo
     · rename_i cs
       split
       · rename_i z hz
         split
         · rename_i ps hps
           obtain⟨vs,hvs,rfl⟩:=hm;exact yN hy ⟨vs,yT hps hvs,rfl⟩
         · exact zo
       · exact zo
     · exact zo
 · exact zo
theorem Qx (h:Sit Pr T S K fr st a w) {i:Nat} {x:Operand}:yP Pr S K a W ⟨dst,.extract x i,ty,pos,af,gd⟩ (qop alg T st (.extract x i)):=by
 intro Q hq;simp only [qop] at hq
 split at hq
 · rename_i l hl
   split at hq
   · rename_i v0 hv
     have hm:=h.eval hl;generalize hx:a.eval x=xv at hm;obtain⟨vs,hvs,rfl⟩:=hm;rw [yc] at hv
     have: ∀ {l:List V0} {vs:List Value} {i:Nat},MVs S (K.map CO.base) l vs→l[i]? =some v0→∃ u,vs[i]? =some u∧MV S (K.map CO.base) v0 u:=by
      intro l
      induction l with
      |nil=>intro vs i _ h;simp at h
      | cons c l ih=>
        intro vs i hvs h
        cases vs with
        |nil=>exact hvs.elim
        | cons v vs=>
          cases i with
          |zero=>simp at h;subst h;exact⟨v,rfl,hvs.1⟩
          |succ i=>obtain⟨u,h1,h2⟩:=ih hvs.2 (i:=i) (by simpa using h);exact⟨u,by simpa using h1,h2⟩
     obtain⟨u,hu,hmu⟩:=this hvs hv
     exact⟨u,.v v0,by simp [Yields,execOp,hx,Instr.extract,hu],hmu,hq⟩
   · exact hq.elim
 · exact hq.elim
theorem zbX {s f:Nat} {gs:Array Field} {fd:Field} (hs:Pr.underlying s=some (.struct gs)) (hf:gs[f]? =some fd) {i:TypeInfo} (hi:Pr.info? fd.type=some i) (h0:0<i.size) (p:Addr):
  (Instr.fieldAt s (.pointer (some p)) f).run Pr w=.ok (.pointer (some (p.add fd.offset))) w:=by
 simp [Instr.fieldAt,run_underlying hs,hf,Instr.sureAddr,fieldPlace,sizeOf,typeInfo,hi,show ¬ i.size=0 by omega]
theorem Uh (h:Sit Pr T S K fr st a w) {t f:Nat} {x:Operand}:yP Pr S K a W ⟨dst,.fieldAddr t x f,ty,pos,af,gd⟩ (qop alg T st (.fieldAddr t x f)):=by
 simp only [qop]
 split
 · rename_i e c he hc
   have hm:=h.one hc;obtain⟨ds,i,hu,-,hty,-⟩:=TE.und (Tab.get h.tab he);generalize hx:a.eval x=xv at hm
   split
   · rename_i fs hfs
     rw [hfs] at hty;obtain⟨gs,rfl,hgs⟩:=uq hty
     split
     · rename_i o tf hnf
       rw [yc,← hgs,List.getElem?_map,Option.map_eq_some_iff] at hnf;obtain⟨fd,hfd,hoff⟩:=hnf;simp only [Prod.mk.injEq] at hoff;obtain⟨rfl,rfl⟩:=hoff
       have hfd':gs[f]? =some fd:=by rw [← Array.getElem?_toList];exact hfd
       split
       · rename_i te hte
         obtain⟨_,ie,_,hie,_,hsz,_⟩:=TE.und (Tab.get h.tab hte)
         have go: ∀ p,xv=.pointer (some p)→0<te.size→Yields Pr a W ⟨dst,.fieldAddr t x f,ty,pos,af,gd⟩ (.pointer (some (p.add fd.offset))):=by
          intro p hp h0 w _
          simp only [execOp,hx,hp,Sem.run_bind,zbX hu hfd' hie (by omega),Result.andThen_ok,Sem.run_pure]
         split
         · rename_i k off hb
           obtain⟨b,hb1,rfl⟩:=hm
           refine yN (go _ rfl (by simpa using hb)) ⟨b,hb1,?_⟩
           simp only [Addr.add]
           split
           · rename_i h0;rw [h0];rfl
           · rfl
         · rename_i u k i off hb
           obtain⟨ao,n,cap,hb1,h0,rfl⟩:=hm
           refine yN (go _ rfl (by simpa using hb)) ⟨ao,n,cap,hb1,h0,?_⟩
           simp only [Addr.add,adr]
           split
           · rename_i h0;rw [h0];rfl
           · simp only [Nat.add_assoc]
         · rename_i u l i off hb
           obtain⟨ao,cap,vs,h1,h2,h3,h0,rfl⟩:=hm
           refine yN (go _ rfl (by simpa using hb)) ⟨ao,cap,vs,h1,h2,h3,h0,?_⟩
           simp only [Addr.add,adr]
           split
           · rename_i h0;rw [h0];rfl
           · simp only [Nat.add_assoc]
         · exact zo
       · exact zo
     · exact zo
   · exact zo
 · exact zo
theorem ziV {t:Nat} {d:TypeDesc} {i:TypeInfo} (hu:Pr.underlying t=some d) (hi:Pr.info? t=some i) (vs:List Value) (o:Nat):
  (d.isRow=true→(part t vs.toArray o).run Pr w=.ok (.agg ((vs.drop o).take i.size).toArray) w)∧(d.isRow=false→∀ v,vs[o]? =some v→(part t vs.toArray o).run Pr w=.ok v w):=by
 constructor
 · intro hr
   have:(isAgg t).run Pr w=.ok true w:=by unfold isAgg;cases d<;>simp_all [run_underlying hu,TypeDesc.isRow]
   simp [part,this,sizeOf,typeInfo,hi]
 · intro hr v hv
   have:(isAgg t).run Pr w=.ok false w:=XH hu hr
   simp [part,this,hv]
theorem zcu (h:Sit Pr T S K fr st a w) {t f:Nat} {x:Operand}:yP Pr S K a W ⟨dst,.field t x f,ty,pos,af,gd⟩ (qop alg T st (.field t x f)):=by
 intro Q hq;simp only [qop] at hq
 split at hq
 · rename_i e cs he hd
   have hm:=h.eval hd;obtain⟨ds,i,hu,-,hty,-⟩:=TE.und (Tab.get h.tab he);generalize hx:a.eval x=xv at hm;obtain⟨vs,hvs,rfl⟩:=hm;unfold zkk at hq
   split at hq
   · rename_i fs hfs
     rw [hfs] at hty;obtain⟨gs,rfl,hgs⟩:=uq hty
     split at hq
     · rename_i off tf hnf
       rw [yc,← hgs,List.getElem?_map,Option.map_eq_some_iff] at hnf;obtain⟨fd,hfd,hoff⟩:=hnf;simp only [Prod.mk.injEq] at hoff;obtain⟨rfl,rfl⟩:=hoff
       have hfd':gs[f]? =some fd:=by rw [← Array.getElem?_toList];exact hfd
       split at hq
       · rename_i te hte
         obtain⟨de,ie,hue,hie,htye,hsz,_⟩:=TE.und (Tab.get h.tab hte);have hp:=fun w=>ziV (w:=w) hue hie vs fd.offset
         rcases Ui hq (hvs.slice fd.offset te.size) with⟨hr,hl,hQ⟩|⟨hr,c1,v1,e1,e2,hm1,hQ⟩
         · refine⟨.agg ((vs.drop fd.offset).take te.size).toArray,.v (.agg ((cs.drop fd.offset).take te.size)),?_,⟨_,hvs.slice fd.offset te.size,rfl⟩,hQ⟩
           intro w _;have:=(hp w).1 (zed htye hr);rw [hsz] at this;simp only [execOp,hx,Instr.field,Sem.run_bind,run_underlying hu,Result.andThen_ok,hfd',asAgg,Sem.run_pure,this]
         · have hv:vs[fd.offset]? =some v1:=by
            have:((vs.drop fd.offset).take te.size)[0]? =some v1:=by rw [e2];rfl
            rw [jC] at this
            split at this
            · rw [jF] at this;simpa using this
            · cases this
           refine⟨v1,.v (.one c1),?_,hm1,hQ⟩;intro w _;have:=(hp w).2 (Zm htye hr) v1 hv;simp only [execOp,hx,Instr.field,Sem.run_bind,run_underlying hu,Result.andThen_ok,hfd',asAgg,Sem.run_pure,this]
       · exact hq.elim
     · exact hq.elim
   · exact hq.elim
 · exact hq.elim
theorem zcj (h:Sit Pr T S K fr st a w) {t:Nat} {x i:Operand}:yP Pr S K a W ⟨dst,.index t x i,ty,pos,af,gd⟩ (qop alg T st (.index t x i)):=by
 simp only [qop]
 split
 · rename_i e l n he hd hn
   have hm:=h.eval hd;obtain⟨k,hk⟩:=h.int hn;obtain⟨ds,i,hu,-,hty,-⟩:=TE.und (Tab.get h.tab he);generalize hx:a.eval x=xv at hm;cases hm
   split
   · rename_i hety
     rw [hety] at hty;have:=rG hty;subst this;refine zU fun h0=> ?_;rw [vP,yh] at h0
     have hlt:n.toNat<l.length:=by omega
     refine zD (v:=.int .u8 (alg.b2i (alg.get l 0 n))) ?_ (.int _ _);intro w _
     have:=zu (w:=w) (dst:=dst) (ty:=ty) (pos:=pos) (af:=af) (gd:=gd) hu (ji hlt) hx hk (by omega)
     simp only [this,zcT,ZU,jG,ji hlt,Option.getD_some]
   · exact zo
 · exact zo
theorem run_arrayAt {t n e:Nat} (ht:Pr.underlying t=some (.array n e)) {i:TypeInfo} (hi:Pr.info? e=some i) (b o j:Nat) (hj:j<n) (k:IntKind):
  (Instr.indexAt t (.pointer (some ⟨b,o,none⟩)) (.int k j)).run Pr w=.ok (.pointer (some ⟨b,o+j * i.size,none⟩)) w:=by
 have e1:(⟨b,o,none⟩:Addr).add (j * i.size)=⟨b,o+j * i.size,none⟩:=by
  unfold Addr.add
  split
  · rename_i h0;rw [h0];rfl
  · rfl
 simp [Instr.indexAt,asIntOf,run_underlying ht,Instr.sureAddr,hj,sizeOf,typeInfo,hi,e1]
theorem VS (h:Sit Pr T S K fr st a w) {t:Nat} {x ix:Operand}:yP Pr S K a W ⟨dst,.indexAddr t x ix,ty,pos,af,gd⟩ (qop alg T st (.indexAddr t x ix)):=by
 simp only [qop]
 split
 · rename_i e c n he hc hn
   have hm:=h.one hc;obtain⟨k,hk⟩:=h.int hn;have hf:=Tab.get h.tab he;obtain⟨ds,i,hu,-,hty,-⟩:=TE.und hf;generalize hx:a.eval x=xv at hm;unfold TD
   split
   · rename_i m el hety
     rw [hety] at hty;have:=Xu hty;subst this
     split
     · rename_i kk off j te hj hte
       obtain⟨_,ie,_,hie,_,hsz,_⟩:=TE.und (Tab.get h.tab hte)
       split
       · rename_i hjm
         have hjm:j<m:=by simpa using hjm
         obtain⟨b,hb,rfl⟩:=hm;refine yN (v:=.pointer (some ⟨b,off+j * te.size,none⟩)) ?_ ⟨b,hb,rfl⟩
         have hnj:n=(j:Int):=by
          unfold zfg at hj
          split at hj
          · cases hj;rfl
          · cases hj
         subst hnj;intro w _;have:=run_arrayAt (w:=w) hu hie b off j hjm k;rw [hsz] at this;simp only [execOp,hx,hk,Sem.run_bind,this,Result.andThen_ok,Sem.run_pure]
       · exact zo
     · rename_i u kk i0 off te hte
       obtain⟨_,ie,_,hie,_,hsz,_⟩:=TE.und (Tab.get h.tab hte)
       split
       · rename_i hb hl0
         have hb:=jH hb
         have h00:i0=0:=by
          unfold zfg at hl0
          split at hl0
          · cases hl0;rfl
          · cases hl0
         subst h00;refine zU fun h0=> ?_;have h0:0≤n∧n<(m:Int):=h0;obtain⟨ao,m',cap,hbase,_,rfl⟩:=hm
         obtain⟨j,rfl⟩: ∃ j:Nat,n=j:=⟨n.toNat,by omega⟩
         refine yN (v:=.pointer (some (adr ao (j * u.size+0)))) ?_ ⟨ao,m',cap,hbase,by omega,by rw [jI]⟩
         intro w _
         have:=run_arrayAt (w:=w) hu hie (blk ao) (ofs ao+(Int.toNat 0 * u.size+0)) j (by omega) k
         rw [hsz,hb] at this;have e1:adr ao (Int.toNat 0 * u.size+0)=⟨blk ao,ofs ao+(Int.toNat 0 * u.size+0),none⟩:=rfl
         have e2:adr ao (j * u.size+0)=⟨blk ao,ofs ao+(Int.toNat 0 * u.size+0)+j * u.size,none⟩:=by unfold adr;simp
         rw [e1] at hx;rw [e2];simp only [execOp,hx,hk,Sem.run_bind,this,Result.andThen_ok,Sem.run_pure]
       · exact zo
     · exact zo
   · rename_i el hety
     rw [hety] at hty;have:=yu hty;subst this
     split
     · exact zo
     · rename_i te hte
       obtain⟨_,ie,_,hie,_,hsz,_⟩:=TE.und (Tab.get h.tab hte)
       have hs1:(Pr.info? el).map (·.size)=some te.size:=TE.size' (Tab.get h.tab hte)
       have go: ∀ {ao:Option Addr} {m cap:Nat} {cs:List Value} {sz:Nat},xv=.slice ao m cap→Rd w sz (.slice ao m cap) m cs→te.size=sz→0<sz→0≤n→n<m→
         Yields Pr a W ⟨dst,.indexAddr t x ix,ty,pos,af,gd⟩ (.pointer (some (adr ao (n.toNat * sz)))):=by
        intro ao m cap cs sz hv hrd he2 h0 h1 h2;subst he2;have hl:=hrd.len
        have hp:n.toNat * te.size<cs.length:=by
         rw [hl]
         exact Nat.mul_lt_mul_of_pos_right (by omega) h0
        exact fun w _=>Qy hu hs1 n.toNat (hx.trans hv) hk (by omega) (by omega) (hrd.spot hp)
       split
       · rename_i u l
         split
         · rename_i hb
           have hb:=jH hb;refine zU fun h0=> ?_;rw [vP,yh] at h0
           cases hm with
           | list _ _ ao cap vs hlen hr hxs=>
             refine yN (go rfl (hr w h.on) hb (Vf u) h0.1 h0.2) ⟨ao,cap,vs,hlen,hr,hxs,h0.1,rfl⟩
         · exact zo
       · rename_i kk
         split
         · rename_i u E l ho
           split
           · rename_i hb
             have hb:=jH hb;refine zU fun h0=> ?_;rw [vP,yh] at h0;rw [yc] at ho;obtain⟨ao,cap,vs,hkk,hlen,hxs,hrd⟩:=h.row ho;have hbase:=zS hkk;have hv:=hm.1;rw [hbase] at hv;cases hv;exact yN (go rfl hrd hb (Vf u) h0.1 h0.2) ⟨ao,_,cap,hbase,h0.1,rfl⟩
           · exact zo
         · rename_i u E Eb l hh ho
           split
           · rename_i hb
             have hb:=jH hb;refine zU fun h0=> ?_;rw [vP,yh] at h0;rw [yc] at ho;obtain⟨o,ao,cap,vs,R,hA⟩:=HR.rws (w:=w) h.hr ho;have hbase:=zS hA.at_;have hv:=hm.1;rw [hbase] at hv;cases hv;obtain⟨L,hat⟩:=h.cls.rws rfl hA.at_;exact yN (go rfl (At.rd (show At w (rowC E u.size (.slice ao l.length cap) l.length vs::L) from hat)) hb (Vf u) h0.1 h0.2) ⟨ao,_,cap,hbase,h0.1,rfl⟩
           · exact zo
         · exact zo
       · rename_i u kk lo hi
         split
         · rename_i u' E l ho
           split
           · rename_i hb hb'
             have hb:=jH hb;have hb':=jH hb';refine zU fun h0=> ?_;rw [vP,rP] at h0;obtain⟨ao,m,cap,hbase,h1,h00,hsub⟩:=hm;rw [yc] at ho;obtain⟨ao',cap',vs,hkk,hlen,hxs,hrd⟩:=h.row ho;have hbase2:=hbase;rw [zS hkk] at hbase2;simp only [CO.base,jr,Value.slice.injEq] at hbase2;obtain⟨rfl,rfl,rfl⟩:=hbase2;rw [← hb'] at hrd;have hs:=hsub.rd hrd;obtain⟨ao2,cap2,rfl,h2,h3,h4,h5,h6,h7,-⟩:=hsub
             have h7:=h7 (by omega)
             have hy:=go rfl hs hb (Vf u) h0.1 (by omega)
             refine yN (v:=.pointer (some (adr ao' ((alg.add lo n).toNat * u.size)))) ?_ ⟨ao',_,cap',hbase,by rw [vF];omega,rfl⟩
             have hl:=hrd.len
             have hpos:0<vs.length:=by rw [hl];exact Nat.mul_pos (by omega) (Vf u)
             obtain⟨b,rfl,hsp⟩:=hrd.spot hpos
             have e1:(alg.add lo n).toNat=lo.toNat+n.toNat:=by rw [vF];omega
             rw [e1,Nat.add_mul]
             have e2:adr ao2 (n.toNat * u.size)=adr (some b) (lo.toNat * u.size+n.toNat * u.size):=by
              rw [h7];simp only [Option.map_some,qJ hsp,adr,blk,ofs,Nat.add_assoc]
             rw [e2] at hy;exact hy
           · exact zo
         · exact zo
       · exact zo
   · exact zo
 · exact zo
theorem vO (h:Sit Pr T S K fr st a w) {o:Option Operand} {n:Option Int} (hn:match o,n with|none,none=>True|some x,some m=>intC (st.eval x)=some m|_,_=>False) {d:Int} {dn:Nat} (hd:d=dn) {b:Nat} (hb:n.getD d=b):
  (o.map a.eval=none∧b=dn)∨∃ k i,o.map a.eval=some (.int k i)∧i=b:=by
 cases o with
 | none=>cases n with
   |none=>exact .inl ⟨rfl,by simp at hb;omega⟩
   |some m=>exact hn.elim
 | some x=>cases n with
   |none=>exact hn.elim
   |some m=>obtain⟨k,hk⟩:=h.int hn;exact .inr ⟨k,m,by simp [hk],hb⟩
theorem zh1 {t m E size:Nat} {x:Operand} {lo hi:Option Operand} (ht:Pr.underlying t=some (.array m E)) (hs:(Pr.info? E).map (·.size)=some size) {ad:Addr} (l h:Nat) (hx:a.eval x=.pointer (some ad))
  (hlo:(lo.map a.eval=none∧l=0)∨∃ k i,lo.map a.eval=some (.int k i)∧i=l) (hhi:(hi.map a.eval=none∧h=m)∨∃ k i,hi.map a.eval=some (.int k i)∧i=h) (hlh:l≤h) (hn:h≤m):
  (execOp a.eval ⟨dst,.slice t x lo hi none,ty,pos,af,gd⟩).run Pr w=.ok (.value (.slice (some (if m=l then ad else ad.add (l * size))) (h - l) (m - l))) w:=by
 obtain⟨inf,hi',hz⟩: ∃ inf,Pr.info? E=some inf∧inf.size=size:=by
  cases h:Pr.info? E with
  |none=>simp [h] at hs
  |some inf=>exact⟨inf,rfl,by simpa [h] using hs⟩
 have hlm:l≤m:=by omega
 rcases hlo with⟨h1,rfl⟩|⟨k,i,h1,rfl⟩<;>rcases hhi with⟨h2,rfl⟩|⟨k',i',h2,rfl⟩<;>
  simp [execOp,hx,h1,h2,Instr.sliceAt,Instr.sliceBounds,Instr.sliceBound,Instr.sureAddr,asIntOf,run_underlying ht,sizeOf,typeInfo,hi',hz,hlh,hn,hlm]
theorem qM (h:Sit Pr T S K fr st a w) {t:Nat} {x:Operand} {lo hi:Option Operand} {e:TE} {c:C} (he:T t=some e) (hc:oneC (st.eval x)=some c) {ln hn:Option Int}
  (hlo:match lo,ln with|none,none=>True|some x,some m=>intC (st.eval x)=some m|_,_=>False) (hhi:match hi,hn with|none,none=>True|some x,some m=>intC (st.eval x)=some m|_,_=>False)
  {sz:Nat} (hsz:sz=match e.ty with|.slice el=>(match T el with|some te=>te.size|none=>0)|.array _ el=>(match T el with|some te=>te.size|none=>0)|_=>0):
  yP Pr S K a W ⟨dst,.slice t x lo hi none,ty,pos,af,gd⟩ (UR alg st.hp e.ty sz c ln hn):=by
 have hm:=h.one hc;have hf:=Tab.get h.tab he;obtain⟨ds,i,hu,-,hty,-⟩:=TE.und hf;generalize hx:a.eval x=xv at hm
 have elem: ∀ {el:Nat} {u:U},e.ty=.slice el→Nat.beq sz u.size=true→Pr.underlying t=some (.slice el)∧(Pr.info? el).map (·.size)=some u.size:=by
  intro el u hel hb;have hb:=jH hb;rw [hel] at hty hsz;have:=yu hty;subst this;refine⟨hu,?_⟩
  cases hte:T el with
  |none=>simp only [hte] at hsz;have:=Vf u;omega
  |some te=>simp only [hte] at hsz;rw [← hb,hsz];exact TE.size' (Tab.get h.tab hte)
 have bnd: ∀ {m:Nat},alg.cutb (ln.getD 0) (hn.getD (m:Int)) (m:Int)→∃ l r:Nat,ln.getD 0=(l:Int)∧hn.getD (m:Int)=(r:Int)∧l≤r∧r≤m:=by
  intro m hb;rw [Xb] at hb
  exact⟨(ln.getD 0).toNat,(hn.getD (m:Int)).toNat,by omega,by omega,by omega,by omega⟩
 unfold UR
 split
 · rename_i l hety
   rw [hety] at hty;have:=rG hty;subst this;refine zU fun h0=> ?_;rw [yh] at h0;obtain⟨lb,rb,e1,e2,h1,h2⟩:=bnd h0
   cases hm with
   | str _ hl=>
     refine zD (v:=.string (Sep.S (alg.cut l (ln.getD 0) (hn.getD (alg.len l))))) ?_ (.str _ ?_)
     · rw [yh,e1,e2,vS,jI,jI]
       exact fun w _=>zhZ hu lb rb hx (vO h hlo (d:=0) (dn:=0) rfl e1) (vO h hhi (d:=(l.length:Int)) rfl e2) h1 h2
     · rw [vS];simp;omega
 · rename_i u l hety
   split
   · rename_i hb
     obtain⟨hu',hs'⟩:=elem hety hb;refine zU fun h0=> ?_;rw [yh] at h0;obtain⟨lb,rb,e1,e2,h1,h2⟩:=bnd h0
     cases hm with
     | list _ _ ao cap vs hlen hr hxs=>
       have hrd:=hr w h.on;have hrd2:=hrd;obtain⟨_,_,e0,hnc,-⟩:=hrd2;cases e0;refine zD (v:=Sep.sub (.slice ao l.length cap) u.size lb rb) (fun w _=>zeo hu' hs' lb rb hnc hx (vO h hlo (d:=0) (dn:=0) rfl e1) (vO h hhi (d:=(l.length:Int)) rfl e2) h1 h2) ?_;rw [yh,e1,e2,vS,jI,jI];have this:=fun w' hw'=>(hr w' hw').sub h1 h2;unfold Sep.sub at this ⊢;simp only at this ⊢;obtain⟨l2,hl2e⟩: ∃ l2,l2=(l.drop lb).take (rb - lb):=⟨_,rfl⟩
       have hl2:l2.length=rb - lb:=by rw [hl2e];simp;omega
       rw [← hl2e];rw [← hl2] at this ⊢;refine .list u _ _ _ _ (this w h.on).len this fun i x j p v hi' hj hv=> ?_;rw [hl2e,jC] at hi'
       split at hi'
       · rw [jF] at hi'
         refine hxs (lb+i) x j p v hi' hj ?_;rw [jC] at hv
         split at hv
         · rw [jF] at hv
           rw [← hv]
           congr 1
           rw [Nat.add_mul];omega
         · cases hv
       · cases hi'
   · exact zo
 · rename_i kk hety
   split
   · rename_i u E l ho
     split
     · rename_i hb
       obtain⟨hu',hs'⟩:=elem hety hb;refine zU fun h0=> ?_;rw [yh] at h0;obtain⟨lb,rb,e1,e2,h1,h2⟩:=bnd h0;rw [yc] at ho;obtain⟨ao,cap,vs,hkk,hlen,hxs,hrd⟩:=h.row ho;have hbase:=zS hkk;have hv:=hm.1;rw [hbase] at hv;cases hv;have hrd2:=hrd;obtain⟨_,_,e0,hnc,-⟩:=hrd2;cases e0;refine yN (v:=Sep.sub (.slice ao l.length cap) u.size lb rb) (fun w _=>zeo hu' hs' lb rb hnc hx (vO h hlo (d:=0) (dn:=0) rfl e1) (vO h hhi (d:=(l.length:Int)) rfl e2) h1 h2) ?_;rw [yh,e1,e2]
       exact⟨ao,_,cap,hbase,by omega,by omega,by rw [jI,jI];exact .mk hrd h1 h2⟩
     · exact zo
   · exact zo
 · rename_i u kk a0 b0 hety
   split
   · rename_i hb
     obtain⟨hu',hs'⟩:=elem hety hb;refine zU fun h0=> ?_;obtain⟨ao,m,cap,hbase,h1,h2,hsub⟩:=hm;have hsub0:=hsub;obtain⟨ao2,cap2,rfl,h3,h4,h5,h6,h7,h8,-⟩:=hsub;rw [rP] at h0
     have hlen:b0 - a0=((b0.toNat - a0.toNat:Nat):Int):=by omega
     rw [hlen] at h0;obtain⟨lb,rb,e1,e2,h9,h10⟩:=bnd h0
     have hy:=fun w (_:W w)=>zeo (w:=w) (dst:=dst) (ty:=ty) (pos:=pos) (af:=af) (gd:=gd) hu' hs' lb rb h5 hx
      (vO h hlo (d:=0) (dn:=0) rfl e1) (vO h hhi (d:=((b0.toNat - a0.toNat:Nat):Int)) rfl e2) h9 h10
     have e3:(alg.add a0 (ln.getD 0)).toNat=a0.toNat+lb:=by rw [vF,e1];omega
     have e4:(alg.add a0 (hn.getD (alg.sub b0 a0))).toNat=a0.toNat+rb:=by rw [vF,rP,hlen,e2];omega
     refine yN hy ⟨ao,m,cap,hbase,by rw [vF,e1];omega,by rw [vF,rP,hlen,e2];omega,?_⟩
     rw [e3,e4];exact hsub0.sub h9 h10
   · exact zo
 · rename_i el hety
   split
   · rename_i hb
     have hb:0<sz:=by simpa [Nat.blt_eq] using hb
     have hm:xv=.slice none 0 0:=hm;rw [hety] at hty hsz;have:=yu hty;subst this
     have hs':(Pr.info? el).map (·.size)=some sz:=by
      cases hte:T el with
      |none=>simp only [hte] at hsz;omega
      |some te=>simp only [hte] at hsz;rw [hsz];exact TE.size' (Tab.get h.tab hte)
     refine zU fun h0=> ?_;obtain⟨lb,rb,e1,e2,h1,h2⟩:=bnd (m:=0) h0;have hy:=fun w (_:W w)=>zeo (w:=w) (dst:=dst) (ty:=ty) (pos:=pos) (af:=af) (gd:=gd) hu hs' lb rb (jK 0) (hx.trans hm) (vO h hlo (d:=0) (dn:=0) rfl e1) (vO h hhi (d:=(0:Int)) (dn:=0) rfl e2) h1 h2
     have hl0:lb=0:=by omega
     have hr0:rb=0:=by omega
     subst hl0;subst hr0
     have hsub:Sep.sub (.slice none 0 0) sz 0 0=.slice none 0 0:=by simp [Sep.sub]
     rw [hsub] at hy;exact yN hy rfl
   · exact zo
 · rename_i n el u kk i0 off hety
   split
   · rename_i u' E l ho hl0
     simp only
     split
     · rename_i hb hb2 hn0 hn1
       have hb:=jH hb;have hb2:=jH hb2
       have hn0:0<n:=by simpa [Nat.blt_eq] using hn0
       have hn1:=Nat.le_of_ble_eq_true hn1;rw [hety] at hty hsz;have:=Xu hty;subst this
       have hs':(Pr.info? el).map (·.size)=some u.size:=by
        cases hte:T el with
        |none=>simp only [hte] at hsz;have:=Vf u;omega
        |some te=>simp only [hte] at hsz;rw [← hb,hsz];exact TE.size' (Tab.get h.tab hte)
       have h00:i0=0:=by
        unfold zfg at hl0
        split at hl0
        · cases hl0;rfl
        · cases hl0
       subst h00;refine zU fun h0=>zU fun h1=> ?_;rw [wU,yh] at h1;have h1:(l.length:Int)=(n:Int):=h1;obtain⟨lb,rb,e1,e2,h2,h3⟩:=bnd (m:=n) h0;obtain⟨ao,m',cap,hbase,_,rfl⟩:=hm;rw [yc] at ho;obtain⟨ao',cap',vs,hkk,hlen,hxs,hrd⟩:=h.row ho;have hbase2:=hbase;rw [zS hkk] at hbase2;simp only [CO.base,jr,Value.slice.injEq] at hbase2;obtain⟨rfl,rfl,rfl⟩:=hbase2;rw [← hb2] at hrd;obtain⟨_,_,e0,hnc,hcm,hno,hl,hcells⟩:=hrd;cases e0
       have hpos:0<vs.length:=by rw [hlen];exact Nat.mul_pos (by omega) (Vf u')
       obtain⟨⟨a0,rfl,hsp⟩,_⟩:=hcells 0 vs[0] (by simp [hpos])
       have ea:adr (some a0) (Int.toNat 0 * u.size+0)=a0:=by
        cases a0 with|mk b o s=>cases hsp;unfold adr blk ofs;simp
       rw [ea] at hx
       have hy:=fun w (_:W w)=>zh1 (w:=w) (dst:=dst) (ty:=ty) (pos:=pos) (af:=af) (gd:=gd) hu hs' lb rb hx
        (vO h hlo (d:=0) (dn:=0) rfl e1) (vO h hhi (d:=(n:Int)) rfl e2) h2 h3
       have e2':hn.getD (Int.ofNat n)=(rb:Int):=e2
       refine yN hy ⟨some a0,_,_,hbase,by rw [e1];omega,by rw [e2'];omega,_,n - lb,by rw [e1,e2',jI,jI],by rw [e1,e2',jI,jI];exact h2,by rw [e2',jI];omega,by rw [e1,e2',jI,jI];omega,by omega,fun e=>(by cases e),?_,?_⟩
       · rw [e1,e2',jI,jI]
         intro hlt
         rw [if_neg (by omega)];rfl
       · rw [e1,jI]
         intro h0;subst h0
         refine⟨?_,by omega⟩
         rw [if_neg (by omega)]
         exact Yz (some a0) (0 * u.size) (Nat.zero_mul _)
     · exact zo
   · exact zo
 · exact zo
theorem zbU (h:Sit Pr T S K fr st a w) {t:Nat} {x:Operand} {lo hi:Option Operand}:yP Pr S K a W ⟨dst,.slice t x lo hi none,ty,pos,af,gd⟩ (qop alg T st (.slice t x lo hi none)):=by
 simp only [qop]
 split
 · rename_i e c he hc
   split
   · exact qM h he hc trivial trivial rfl
   · split
     · rename_i n hn;exact qM h he hc hn trivial rfl
     · exact zo
   · split
     · rename_i n hn;exact qM h he hc trivial hn rfl
     · exact zo
   · split
     · rename_i n m hn hm;exact qM h he hc hn hm rfl
     · exact zo
 · exact zo
theorem zh0 {E size:Nat} {t:Nat} {x h m:Operand} (ht:Pr.underlying t=some (.slice E)) (hs:(Pr.info? E).map (·.size)=some size) {ao:Option Addr} {n cap:Nat} (q:Nat) (hcap:n≤cap) (hx:a.eval x=.slice ao n cap)
  {k k':IntKind} (hh:a.eval h=.int k (q:Int)) (hm:a.eval m=.int k' (q:Int)) (hn:q≤n):
  (execOp a.eval ⟨dst,.slice t x none (some h) (some m),ty,pos,af,gd⟩).run Pr w=.ok (.value (.slice ao q q)) w:=by
 obtain⟨inf,hi,hz⟩: ∃ inf,Pr.info? E=some inf∧inf.size=size:=by
  cases h:Pr.info? E with
  |none=>simp [h] at hs
  |some inf=>exact⟨inf,rfl,by simpa [h] using hs⟩
 have hqc:q≤cap:=by omega
 have hmap:ao.map (·.add 0)=ao:=Yz ao 0 rfl
 have hmap':Option.map (fun x=>Addr.add x 0) ao=ao:=hmap
 simp [execOp,hx,hh,hm,Instr.sliceAt,Instr.slice,Instr.sliceBounds,Instr.sliceBound,asIntOf,run_underlying ht,sizeOf,typeInfo,hi,hqc,hmap']
theorem zac (h:Sit Pr T S K fr st a w) {t:Nat} {x y z:Operand}:yP Pr S K a W ⟨dst,.slice t x none (some y) (some z),ty,pos,af,gd⟩ (qop alg T st (.slice t x none (some y) (some z))):=by
 simp only [qop]
 split
 · rename_i e k n m he hc hn hm
   split
   · rename_i el u E l hety ho
     split
     · rename_i te hte
       split
       · rename_i hb
         refine zU fun hnm=>zU fun h0=> ?_;rw [wU] at hnm;subst hnm;rw [Xb,yh] at h0;have hb:=jH hb;have hmc:=h.one hc;have hf:=Tab.get h.tab he;obtain⟨ds,i,hu,-,hty,-⟩:=TE.und hf;rw [hety] at hty;have:=yu hty;subst this
         have hs':(Pr.info? el).map (·.size)=some u.size:=by rw [← hb];exact TE.size' (Tab.get h.tab hte)
         obtain⟨k1,hy⟩:=h.int hn;obtain⟨k2,hz⟩:=h.int hm;generalize hx:a.eval x=xv at hmc;rw [yc] at ho;obtain⟨ao,cap,vs,hkk,hlen,hxs,hrd⟩:=h.row ho;have hbase:=zS hkk;have hv:=hmc.1;rw [hbase] at hv;cases hv;obtain⟨_,_,e0,hnc,hcm,hno,_⟩:=hrd;cases e0
         obtain⟨q,hq⟩: ∃ q:Nat,n=q:=⟨n.toNat,by omega⟩
         subst hq
         refine yN (v:=.slice ao q q) (fun w _=>zh0 hu hs' q hnc hx hy hz (by omega)) ?_
         refine⟨ao,_,cap,hbase,Int.le_refl _,by omega,ao,q,by simp,by simp,?_,by simp,by omega,fun e=> ?_,fun _=> ?_,fun _=>⟨rfl,by omega⟩⟩
         · rw [jI];omega
         · have:=hno e;omega
         · rw [show Int.toNat 0 * u.size=0 by simp,Yz _ _ rfl]
       · exact zo
     · exact zo
   · exact zo
 · exact zo
theorem tK {S:Frz}: ∀ {vs:List Value} {ps:List P},yC vs ps=true→MPs S ps vs:=by
 intro vs ps h
 induction ps generalizing vs with
 | nil=>cases vs with
   |nil=>trivial
   |cons v vs=>unfold yC at h;split at h<;>simp_all
 | cons p ps ih=>
   unfold yC at h
   split at h
   · rename_i h1 h2;cases h2
   · rename_i k vs k' ps' h1;cases h1
     simp only [jJ] at h;rw [vV h.1];exact⟨.int _ _,ih h.2⟩
   · rename_i h1;cases h1;exact⟨.bool _,ih h⟩
   · rename_i h1;cases h1;exact⟨.str (S:=S) [] (jL _),ih h⟩
   · rename_i vs u ps' h1;cases h1
     refine⟨.list u [] none 0 [] (by simp) (fun w _=>⟨none,0,rfl,jK _,jL _,fun _=>rfl,by simp,fun j u h=>by simp at h⟩) (fun i x j p v h=>by simp at h),ih h⟩
   · rename_i h1;cases h1;exact⟨.nl [] _ (fun _=>rfl) (Yy _),ih h⟩
   · rename_i h1;cases h1;exact⟨.val _ rfl,ih h⟩
   · rename_i h1;cases h1;exact⟨.val _ rfl,ih h⟩
   · rename_i h1;cases h1;exact⟨.val _ rfl,ih h⟩
   · cases h
theorem zcU {S:Frz} {bs:List Value}: ∀ {ps:List P} {vs:List Value},yC vs ps=true→MCs S bs (ps.map zc) vs:=by
 intro ps
 induction ps with
 | nil=>intro vs h;cases vs with
   |nil=>trivial
   |cons v vs=>unfold yC at h;split at h<;>simp_all
 | cons p ps ih=>
   intro vs h;unfold yC at h
   split at h
   · rename_i h1 h2;cases h2
   · rename_i k vs k' ps' h1;cases h1
     simp only [jJ] at h;rw [vV h.1];exact⟨.int _ _,ih h.2⟩
   · rename_i h1;cases h1;exact⟨.bool _,ih h⟩
   · rename_i h1;cases h1;exact⟨.str (S:=S) [] (jL _),ih h⟩
   · rename_i vs u ps' h1;cases h1;exact⟨rfl,ih h⟩
   · rename_i h1;cases h1;exact⟨rfl,ih h⟩
   · rename_i h1;cases h1;exact⟨.val _ rfl,ih h⟩
   · rename_i h1;cases h1;exact⟨.val _ rfl,ih h⟩
   · rename_i h1;cases h1;exact⟨.val _ rfl,ih h⟩
   · cases h
def layV:List Value→Nat→List Value→List Value
 |cs,_,[]=>cs
 |cs,o,d::ds=>layV (cs.set o d) (o+1) ds
theorem VN {S:Frz} {bs:List Value}: ∀ {ds:List C} {vs:List Value} {cs:List C} {us:List Value} (o:Nat),MCs S bs ds vs→MCs S bs cs us→MCs S bs (lay cs o ds) (layV us o vs)
 |[],[],_,_,_,_,h=>h
 |_::_,_::_,_,_,o,hd,h=>VN (o+1) hd.2 (h.set o hd.1)
theorem Qm: ∀ (vs:List Value) (us:Array Value) (o k:Nat),(vs.zipIdx k).foldl (fun cs (c,j)=>cs.setIfInBounds (o+j) c) us=(layV us.toList (o+k) vs).toArray
 |[],us,o,k=>by simp [layV]
 | v::vs,us,o,k=>by
   simp only [List.zipIdx_cons,List.foldl_cons,layV];rw [Qm vs _ o (k+1)]
   simp [Nat.add_assoc]
theorem QG {S:Frz} {bs:List Value} {d:D} {cs:List C} {v:Value} (h:cellsOf d=some cs) (hm:MD S bs d v): ∃ vs:List Value,v.cells=vs.toArray∧MCs S bs cs vs:=by
 unfold cellsOf at h
 split at h
 · rename_i c
   cases h;have h1:=MC.one (S:=S) (bs:=bs) hm;refine⟨[v],?_,hm,trivial⟩
   cases v<;>first|rfl|(simp [Value.oneCell'] at h1)
 · rename_i cs'
   cases h;obtain⟨vs,hvs,rfl⟩:=hm;exact⟨vs,rfl,hvs⟩
 · cases h
theorem XM (h:Sit Pr T S K fr st a w) {pa pv:Nat→Option (Nat × Nat)} (hp: ∀ i x,pa i=some x→pv i=some x): ∀ {parts:List (Nat × Operand)} {cs cs':List C} {us:List Value},
  layAll pa cs (parts.map fun p=>(p.1,st.eval p.2))=some cs'→MCs S (K.map CO.base) cs us→∃ us':List Value,Instr.fill pv us.toArray (parts.map fun(i,x)=>(i,a.eval x))=some us'.toArray∧MCs S (K.map CO.base) cs' us':=by
 intro parts
 induction parts with
 |nil=>intro cs cs' us hl hm;cases hl;exact⟨us,rfl,hm⟩
 | cons pt parts ih=>
   intro cs cs' us hl hm;obtain⟨i,x⟩:=pt;simp only [List.map_cons,layAll] at hl
   split at hl
   · rename_i o n d hpa hd
     split at hl
     · rename_i ds hds
       split at hl
       · rename_i hb1 hb2
         have hb1:=jH hb1;have hb2:=Nat.le_of_ble_eq_true hb2;obtain⟨vs,hvc,hvm⟩:=QG hds (h.eval hd);obtain⟨us',h1,h2⟩:=ih hl (VN o hvm hm);refine⟨us',?_,h2⟩;have hl1:=hvm.length;have hl2:=hm.length;simp only [List.map_cons,Instr.fill,hp _ _ hpa,hvc]
         rw [if_neg (by simp;omega)]
         have:=Qm vs us.toArray o 0;simp only [Nat.add_zero] at this;rw [← h1,← this]
         congr 1
         simp
       · cases hl
     · cases hl
   · cases hl
theorem zao (h:Sit Pr T S K fr st a w): ∀ {gs:List Field} {pl:List (Nat × Nat)},places T (gs.map fun f=>(f.offset,f.type))=some pl→gs.mapM (fun f=>(Pr.info? f.type).map fun i=>(f.offset,i.size))=some pl:=by
 intro gs
 induction gs with
 |nil=>intro pl hp;cases hp;rfl
 | cons g gs ih=>
   intro pl hp;simp only [List.map_cons,places] at hp
   split at hp
   · rename_i te l h1 h2
     cases hp;obtain⟨_,ie,_,hie,_,hsz,_⟩:=TE.und (Tab.get h.tab h1)
     simp [List.mapM_cons,hie,ih h2,hsz]
   · cases hp
theorem zcC (h:Sit Pr T S K fr st a w) {t:Nat} {parts:Array (Nat × Operand)}:yP Pr S K a W ⟨dst,.build t parts,ty,pos,af,gd⟩ (qop alg T st (.build t parts)):=by
 intro Q hq;simp only [qop] at hq
 split at hq
 · rename_i e he
   have hf:=Tab.get h.tab he;obtain⟨ds,it,hu,hit,hty,-⟩:=TE.und hf;unfold zko at hq
   split at hq
   · exact hq.elim
   · rename_i z hz
     obtain⟨it',zv,hit',hzv,hzf,hzl⟩:=TE.zero' hf hz;rw [hit] at hit';cases hit';have hm0:=zcU (S:=S) (bs:=K.map CO.base) hzf
     have hyield: ∀ {us':List Value},Pr.built t (parts.map fun(i,x)=>(i,a.eval x)).toList=some us'.toArray→Yields Pr a W ⟨dst,.build t parts,ty,pos,af,gd⟩ (.agg us'.toArray):=by
      intro us' hb w _;simp only [execOp,Sem.run_bind,run_build w t _ _ hb,Result.andThen_ok,Sem.run_pure]
     split at hq
     · rename_i fs hfs
       rw [hfs] at hty;obtain⟨gs,rfl,hgs⟩:=uq hty
       split at hq
       · rename_i pl hpl
         split at hq
         · rename_i cs hcs
           rw [← hgs] at hpl;have hpl:=zao h hpl
           obtain⟨us',h1,h2⟩:=XM h (pv:=(pl.toArray[·]?)) (fun i x hi=>by rw [yc] at hi;simpa using hi) hcs hm0
           refine⟨_,.v (.agg cs),hyield (us':=us') ?_,⟨us',h2,rfl⟩,hq⟩;simp only [Program.built,hit,hu,hzv,hpl]
           simpa using h1
         · exact hq.elim
       · exact hq.elim
     · rename_i m el hel
       rw [hel] at hty;have:=Xu hty;subst this
       split at hq
       · rename_i te hte
         obtain⟨_,ie,_,hie,_,hsz,_⟩:=TE.und (Tab.get h.tab hte)
         split at hq
         · rename_i cs hcs
           obtain⟨us',h1,h2⟩:=XM h (pv:=fun i=>some (i * te.size,te.size)) (fun i x hi=>hi) hcs hm0;refine⟨_,.v (.agg cs),hyield (us':=us') ?_,⟨us',h2,rfl⟩,hq⟩;simp only [Program.built,hit,hu,hzv,hie,hsz]
           simpa using h1
         · exact hq.elim
       · exact hq.elim
     · exact hq.elim
 · exact hq.elim
theorem zfC (h:Sit Pr T S K fr st a w) {c:Call}:yP Pr S K a W ⟨dst,.call c,ty,pos,af,gd⟩ (qop alg T st (.call c)):=by
 obtain⟨callee,args,tys⟩:=c;simp only [qop]
 split
 · rename_i x hargs
   have hargs:args= #[x]:=by apply Array.ext';simpa using hargs
   subst hargs
   split
   · rename_i v t hv htys
     have htys:tys= #[t]:=by apply Array.ext';simpa using htys
     subst htys;have hm:=h.one hv;generalize hx:a.eval x=xv at hm
     split
     · rename_i e he
       obtain⟨ds,it,hu,hit,hty,-⟩:=TE.und (Tab.get h.tab he)
       split
       · rename_i n hn
         have sl: ∀ {el:Nat} {ao:Option Addr} {m cap:Nat},e.ty=.slice el→xv=.slice ao m cap→Yields Pr a W ⟨dst,.call ⟨.builtin .len,#[x],#[t]⟩,ty,pos,af,gd⟩ (.int .i64 (m:Int)):=by
          intro el ao m cap hel hv;rw [hel] at hty;have:=yu hty;subst this
          simp [Yields,execOp,resolve,invoke,builtin,hx,hv,Builtin.len_,run_underlying hu,goInt]
         unfold lenQ at hn
         split at hn
         · rename_i l hety
           cases hn;rw [hety] at hty;have:=rG hty;subst this;cases hm
           exact zD (v:=.int .i64 (l.length:Int)) (by simp [Yields,execOp,resolve,invoke,builtin,hx,Builtin.len_,run_underlying hu,goInt]) (.int _ _)
         · rename_i hety;cases hn;cases hm;exact zD (sl hety rfl) (.int _ _)
         · rename_i u k lo hi hety
           cases hn;obtain⟨ao,n',cap,_,h0,h00,hs⟩:=hm;obtain⟨ao',cap',rfl,h1,_⟩:=hs;have hy:=sl hety rfl
           have e1:((hi.toNat - lo.toNat:Nat):Int)=hi - lo:=by omega
           rw [e1] at hy;exact zD hy (.int _ _)
         · rename_i hety;cases hn;cases hm;exact zD (sl hety rfl) (.int _ _)
         · rename_i hety;cases hn;cases hm;rename_i hm;cases hm;exact zD (sl hety rfl) (.int _ _)
         · rename_i hety
           split at hn
           · rename_i ho
             cases hn;rw [yc] at ho;obtain⟨ao,cap,vs,hk,_⟩:=h.row ho;have hb:=hm.1;rw [zS hk] at hb;cases hb;exact zD (sl hety rfl) (.int _ _)
           · rename_i ho
             cases hn;rw [yc] at ho;obtain⟨o,ao,cap,vs,R,hA⟩:=HR.rws (w:=w) h.hr ho;have hb:=hm.1;rw [zS hA.at_] at hb;cases hb;exact zD (sl hety rfl) (.int _ _)
           · cases hn
         · cases hn
       · exact zo
     · exact zo
   · exact zo
 · rename_i x hargs
   have hargs:args= #[x]:=by apply Array.ext';simpa using hargs
   subst hargs
   split
   · rename_i t hv htys
     have htys:tys= #[t]:=by apply Array.ext';simpa using htys
     subst htys;have hm:=h.one hv;generalize hx:a.eval x=xv at hm
     split
     · rename_i el e1 e2 e3 e4 he
       obtain⟨ds,it,hu,hit,hty,-⟩:=TE.und (Tab.get h.tab he);have:=yu hty;subst this;have hm:xv=.slice none 0 0:=hm;subst hm
       exact zD (v:=.int .i64 0) (by simp [Yields,execOp,resolve,invoke,builtin,hx,Builtin.cap_,run_underlying hu,goInt]) (.int _ _)
     · exact zo
   · exact zo
 · rename_i x y hargs
   have hargs:args= #[x,y]:=by apply Array.ext';simpa using hargs
   subst hargs
   split
   · rename_i k m k' n h1 h2
     have hm1:=h.one h1;have hm2:=h.one h2;generalize hx:a.eval x=xv at hm1;generalize hy:a.eval y=yv at hm2;cases hm1;cases hm2
     split
     · rename_i hk
       have:=vV hk;subst this;refine zD (v:=.int k (alg.imin m n)) ?_ (.int _ _)
       simp [Yields,execOp,resolve,invoke,builtin,hx,hy,Builtin.min_,Builtin.min2,QW]
       split<;>split<;>omega
     · exact zo
   · exact zo
 · rename_i x y hargs
   have hargs:args= #[x,y]:=by apply Array.ext';simpa using hargs
   subst hargs
   split
   · rename_i k m k' n h1 h2
     have hm1:=h.one h1;have hm2:=h.one h2;generalize hx:a.eval x=xv at hm1;generalize hy:a.eval y=yv at hm2;cases hm1;cases hm2
     split
     · rename_i hk
       have:=vV hk;subst this;refine zD (v:=.int k (alg.imax m n)) ?_ (.int _ _)
       simp [Yields,execOp,resolve,invoke,builtin,hx,hy,Builtin.max_,Builtin.max2,QX]
       split<;>split<;>omega
     · exact zo
   · exact zo
 · exact zo
def zdH:Op→Bool
 |.load .. |.convert .. =>true
 |_=>false
theorem uj (h:Sit Pr T S K fr st a w) (o:Oper) (hW:zdH o.op=true→Cls S K W):yP Pr S K a W o (qop alg T st o.op):=by
 obtain⟨dst,op,ty,pos,af,gd⟩:=o
 cases op with
 |move x=>exact ze9 h
 |assign x=>exact zbD h
 |pick c x y=>exact ze1 h
 |load t x=>exact zff h (hW rfl)
 |nilCheck x=>exact UH h
 |binOp op t x y u=>exact zcK h
 |typeAssert x xt t ok=>exact zbE h
 |unOp op t x=>exact zeL h
 |convert s d x=>exact QE h (hW rfl)
 |makeInterface t x=>exact ZH h
 | slice t x lo hi mx=>cases mx with
   |none=>exact zbU h
   | some m=>cases lo with
     |some _=>cases hi<;>exact zo
     | none=>cases hi with
       |none=>exact zo
       |some _=>exact zac h
 |fieldAddr t x f=>exact Uh h
 |field t x f=>exact zcu h
 |indexAddr t x i=>exact VS h
 |index t x i=>exact zcj h
 |extract x i=>exact Qx h
 |build t ps=>exact zcC h
 |call c=>exact zfC h
 |_=>exact zo
end
end Go.Ab
namespace Go.Ab
open Go Go.Sep
variable [Facts]
def del (t:Nat):List (Nat × D)→List (Nat × D)
 |[]=>[]
 |(k,d)::r=>match Nat.beq k t with|true=>del t r|false=>(k,d)::del t r
def St.put (st:St) (dst:Option Nat) (d:D):St:=
 match dst with
 |none=>st
 | some t=>match Nat.blt t st.n with
   |true=> { st with env:=(t,d)::del t st.env}
   |false=>st
theorem WJ {t s:Nat} (h:t≠s): ∀ (env:List (Nat × D)),look (del t env) s=look env s
 |[]=>rfl
 | (k,d)::r=>by
   simp only [del]
   split
   · rename_i hk
     have:=jH hk;subst this;simp only [xw,h,if_false];exact WJ h r
   · simp only [xw]
     split
     · rfl
     · exact WJ h r
theorem Env.put {S:Frz} {bs:List Value} {st:St} {a:Act} (h:Env S bs st a) (dst:Option Nat) {d:D} {v:Value} (hm:MD S bs d v):Env S bs (st.put dst d) (a.put dst v):=by
 cases dst with
 |none=>exact h
 | some t=>
   simp only [St.put]
   split
   · rename_i hb
     have hb:t<st.n:=by simpa using hb
     refine⟨by simpa [Act.put] using h.size,h.defers,fun s d' hs=> ?_⟩
     simp only [xw] at hs
     by_cases hts:t=s
     · subst hts
       simp only [if_true,jr] at hs;subst hs
       have:t<a.tmps.size:=by rw [h.size];exact hb
       have e:(a.put (some t) v).tmps.getD t undef=v:=by simp [Act.put,this]
       rw [e];exact hm
     · simp only [hts,if_false] at hs
       rw [WJ hts] at hs;have:=h.slots s d' hs
       have e:(a.put (some t) v).tmps.getD s undef=a.tmps.getD s undef:=by
        simp [Act.put,hts]
       rw [e];exact this
   · rename_i hb
     have hb: ¬ t<st.n:=fun hlt=>by rw [show Nat.blt t st.n=true by simpa using hlt] at hb;cases hb
     have e:a.put (some t) v=a:=by
      cases a;simp only [Act.put,Act.mk.injEq,and_true];have:=h.size;simp only at this
      exact Array.setIfInBounds_eq_of_size_le (by omega)
     rw [e];exact h
theorem zA (K L:List CO):CO.zl (K++L)=CO.zl K++CO.zl L:=by simp [CO.Y0]
theorem yM {α:Type}: ∀ {l:List α} {k:Nat} {c:α},l[k]? =some c→∃ p r,l=p++c::r∧p.length=k∧∀ d,l.set k d=p++d::r
 |[],k,c,h=>by simp at h
 |x::l,0,c,h=>by simp at h;subst h;exact⟨[],l,rfl,rfl,fun d=>rfl⟩
 | x::l,k+1,c,h=>by
   obtain⟨p,r,h1,h2,h3⟩:=yM (l:=l) (k:=k) (c:=c) (by simpa using h)
   exact⟨x::p,r,by rw [h1];rfl,by simp [h2],fun d=>by simp [h3]⟩
theorem zK (a:Chunk) (p r:List Chunk) (c:Chunk) (fr:List Chunk):(a::((p++c::r)++fr)).Perm (c::a::((p++r)++fr)):=by
 have h1:((p++c::r)++fr).Perm (c::((p++r)++fr)):=by
  simp only [jk,List.cons_append];exact List.perm_middle
 exact(h1.cons a).trans (.swap _ _ _)
theorem At.turn {w w':World} {S:Frz} {K:List CO} {fr:List Chunk} (H:At w (frzC S::(CO.zl K++fr))) {k:Nat} {c:CO} (hc:K[k]? =some c) (c':CO)
  (h: ∀ L,At w (c.chunk::frzC S::L)→At w' (c'.chunk::frzC S::L)):At w' (frzC S::(CO.zl (K.set k c')++fr)):=by
 obtain⟨p,r,h1,_,h3⟩:=yM hc;rw [h3,zA];rw [h1,zA] at H;exact(h _ (H.perm (zK _ _ _ _ _))).perm (zK _ _ _ _ _).symm
theorem At.more {w:World} {S:Frz} {K:List CO} {fr:List Chunk} {c:CO} (H:At w (c.chunk::frzC S::(CO.zl K++fr))):At w (frzC S::(CO.zl (K++[c])++fr)):=by
 rw [zA];refine H.perm (List.Perm.symm ?_);have:=zK (frzC S) (CO.zl K) [] c.chunk fr
 simpa [CO.zl] using this
theorem At.void {w:World} {l:List Chunk} (H:At w l):At w (zkL True::l):=At.pure.2 ⟨trivial,H⟩
theorem yw {K:List CO} {k:Nat} {c c':CO} (hc:K[k]? =some c) (hb:c'.base=c.base):(K.set k c').map CO.base=K.map CO.base:=by
 obtain⟨p,r,h1,_,h3⟩:=yM hc;rw [h3,h1];simp [hb]
theorem HR.set {S:Frz} {bs:List Value} {hp:List HO} {K:List CO} (h:HR S bs hp K) (k:Nat) {o:HO} {c:CO} (hr:Rel S bs o c):HR S bs (hp.set k o) (K.set k c):=by
 refine⟨by simp [h.1],fun i o' c' h1 h2=> ?_⟩
 rw [List.getElem?_set] at h1 h2
 by_cases hk:k=i
 · subst hk
   simp only [if_true] at h1 h2
   split at h1
   · split at h2
     · cases h1;cases h2;exact hr
     · cases h2
   · cases h1
 · rw [if_neg hk] at h1 h2;exact h.2 i o' c' h1 h2
theorem HR.push {S:Frz} {bs:List Value} {hp:List HO} {K:List CO} (h:HR S bs hp K) {o:HO} {c:CO} (hr:Rel S bs o c):HR S bs (hp++[o]) (K++[c]):=by
 refine⟨by simp [h.1],fun i o' c' h1 h2=> ?_⟩
 rcases Nat.lt_trichotomy i hp.length with hi|hi|hi
 · rw [jw hi] at h1
   rw [jw (by rw [← h.1];exact hi)] at h2
   exact h.2 i o' c' h1 h2
 · subst hi
   rw [jy (jK _)] at h1;rw [h.1,jy (jK _)] at h2
   simp at h1 h2
   subst h1;subst h2;exact hr
 · rw [jy (by omega)] at h1
   have:i - hp.length≠0:=by omega
   obtain⟨m,hm⟩: ∃ m,i - hp.length=m+1:=⟨i - hp.length - 1,by omega⟩
   rw [hm] at h1;simp at h1
theorem At.freeze {w:World} {S:Frz} {E size:Nat} {ao:Option Addr} {n cap:Nat} {cs:List Value} {l:List Chunk} (H:At w (rowC E size (.slice ao n cap) n cs::frzC S::l)):
  ∃ S',S.le S'∧At w (frzC S'::l)∧RdS S' size (.slice ao n cap) n cs:=by
 obtain⟨F,A,B,e,dj,hrow,A',B',e',dj',hfrz,hl⟩:=H;obtain⟨hF,hlen,hv⟩:=hrow;obtain⟨hA',h1,h2,h3,h4⟩:=hfrz
 rcases hv with⟨hv,hn⟩|⟨g,cap',cur,fz,hv,hg,hfree,hnc,hcm,hcs,ht⟩
 · cases hv
   have hcs:cs=[]:=List.eq_nil_of_length_eq_zero (by simpa using hlen)
   subst hcs
   exact⟨S,Frz.le.refl S,⟨_,A',B',fun _=>Iff.rfl,dj',⟨hA',h1,h2,h3,h4⟩,hl⟩,fun w' _=>⟨_,0,rfl,jK _,jL _,fun _=>rfl,by simp,fun j u h=>by simp at h⟩⟩
 · cases hv
   have hA: ∀ k,A k↔k=g:=fun k=>by rw [hF k];simp [Value.ownBlock,eq_comm]
   have hgn:S.blk g=none:=by
    cases hS:S.blk g with
    |none=>rfl
    | some o=>
      have:A' g:=(hA' g).2 (by rw [hS];rfl)
      exact(dj g ((hA g).2 rfl) ((e' g).2 (.inl this))).elim
   have hext: ∀ k o,S.blk k=some o→(if k=g then some (.cells cur E fz) else S.blk k)=some o:=fun k o ho=>by
    have:k≠g:=fun hk=>by subst hk;rw [hgn] at ho;cases ho
    simp only [this,if_false];exact ho
   refine⟨S.re S (fun k=>if k=g then some (.cells cur E fz) else S.blk k) rfl rfl rfl hext,⟨rfl,rfl,rfl,hext⟩,⟨F,fun k=>A k∨A' k,B',fun k=>by rw [e k,e' k,or_assoc],?_,⟨fun k=> ?_,h1,h2,h3,fun k o ho=> ?_⟩,hl⟩,fun w' hw'=> ?_⟩
   · rintro k (hk|hk) hB
     · exact dj k hk ((e' k).2 (.inr hB))
     · exact dj' k hk hB
   · show(A k∨A' k)↔(if k=g then some (.cells cur E fz) else S.blk k).isSome=true
     rw [hA k,hA' k]
     by_cases hk:k=g<;>simp [hk]
   · have ho:(if k=g then some (.cells cur E fz) else S.blk k)=some o:=ho
     by_cases hk:k=g
     · subst hk;simp only [if_true,jr] at ho;subst ho;exact hg
     · simp only [hk,if_false] at ho;exact h4 k o ho
   · have hgw:w'.heap[g]? =some (.cells cur E fz):=hw'.2.2.2 g _ (by simp [Frz.re])
     exact Owns.rd ⟨hlen,.inr ⟨g,cap,cur,fz,rfl,hgw,hfree,hnc,hcm,hcs,ht⟩⟩
def C.frz (I:Alg) (k:Nat) (u:U) (l:List u.den):C→C
 |.row j=>match Nat.beq j k with|true=>.p (.list u l)|false=>.row j
 |.sub u' j lo hi=>match Nat.beq j k,Nat.beq u'.size u.size with|true,true=>.p (.list u (I.cut l lo hi))|_,_=>.sub u' j lo hi
 |.ept u' j i off=>match Nat.beq j k,Nat.beq u'.size u.size with|true,true=>.fpt u l i off|_,_=>.ept u' j i off
 |c=>c
def V0.frz (I:Alg) (k:Nat) (u:U) (l:List u.den):V0→V0
 |.one c=>.one (c.frz I k u l)
 |.agg cs=>.agg (cs.map (C.frz I k u l))
def D.frz (I:Alg) (k:Nat) (u:U) (l:List u.den):D→D
 |.v x=>.v (x.frz I k u l)
 |.tup vs=>.tup (vs.map (V0.frz I k u l))
 |.bad=>.bad
def HO.frz (I:Alg) (k:Nat) (u:U) (l:List u.den):HO→HO
 |.obj T cs=>.obj T (cs.map (C.frz I k u l))
 |o=>o
def zbx (I:Alg) (k:Nat) (u:U) (l:List u.den):List (Nat × D)→List (Nat × D)
 |[]=>[]
 |(t,d)::r=>(t,d.frz I k u l)::zbx I k u l r
def setN {α:Type}:List α→Nat→α→List α
 |[],_,_=>[]
 |_::l,0,x=>x::l
 |y::l,n+1,x=>y::setN l n x
theorem yE {α:Type}: ∀ (l:List α) (n:Nat) (x:α),setN l n x=l.set n x
 |[],_,_=>rfl
 |_::_,0,_=>rfl
 |_::l,n+1,x=>by simp [setN,yE l n x]
def St.freeze (I:Alg) (st:St) (k:Nat):St:=
 match nth st.hp k with
 |some (.row u _ l)=> { st with env:=zbx I k u l st.env,hp:=setN (st.hp.map (HO.frz I k u l)) k .gone}
 |some (.rws u _ _ l none)=> { st with env:=zbx I k u l st.env,hp:=setN (st.hp.map (HO.frz I k u l)) k .gone}
 |_=>st
theorem C.xZ {S:Frz} {bs:List Value} {k:Nat} {u:U} {l:List u.den} {ao:Option Addr} {cap:Nat} {vs:List Value} (hb:bs[k]? =some (.slice ao l.length cap)) (hlen:vs.length=l.length * u.size)
  (hx: ∀ (i:Nat) (x:u.den) (j:Nat) (p:P) (v:Value),l[i]? =some x→(enc alg u x)[j]? =some p→vs[i * u.size+j]? =some v→MP S p v) (hr:RdS S u.size (.slice ao l.length cap) l.length vs)
  {c:C} {v:Value} (h:MC S bs c v):MC S bs (c.frz alg k u l) v:=by
 cases c with
 | row j=>
   simp only [C.frz]
   split
   · rename_i hj
     have hj:=jH hj;subst hj;have:=h.1;rw [hb] at this;cases this;exact .list u l ao cap vs hlen hr hx
   · exact h
 | sub u' j lo hi=>
   simp only [C.frz]
   split
   · rename_i hj hu
     have hj:=jH hj;have hu:=jH hu;subst hj;obtain⟨ao',n',cap',hb',h0,h00,hs⟩:=h;rw [hb] at hb';simp only [jr,Value.slice.injEq] at hb';obtain⟨rfl,rfl,rfl⟩:=hb';rw [hu] at hs;have hrd:=fun w' hw'=>hs.rd (hr w' hw');obtain⟨ao2,cap2,rfl,h1,h2,h3,h4,h5,h6⟩:=hs;obtain⟨l2,hl2e⟩: ∃ l2,l2=alg.cut l lo hi:=⟨_,rfl⟩
     have hl2:l2.length=hi.toNat - lo.toNat:=by rw [hl2e,vS];simp;omega
     rw [← hl2e];rw [← hl2] at hrd ⊢
     have hcl:((vs.drop (lo.toNat * u.size)).take (l2.length * u.size)).length=l2.length * u.size:=by
      rw [jq,jB,hlen,hl2]
      have:(hi.toNat - lo.toNat) * u.size≤(l.length - lo.toNat) * u.size:=Nat.mul_le_mul_right _ (by omega)
      rw [Nat.sub_mul l.length] at this;omega
     refine .list u l2 ao2 cap2 _ hcl hrd fun i x j p v hi' hj hv=> ?_;rw [hl2e,vS,jC] at hi'
     split at hi'
     · rw [jF] at hi'
       refine hx (lo.toNat+i) x j p v hi' hj ?_;rw [jC] at hv
       split at hv
       · rw [jF] at hv
         rw [← hv]
         congr 1
         rw [Nat.add_mul];omega
       · cases hv
     · cases hi'
   · exact h
 | ept u' j i off=>
   simp only [C.frz]
   split
   · rename_i hj hu
     have hj:=jH hj;have hu:=jH hu;subst hj;obtain⟨ao',n',cap',hb',h0,rfl⟩:=h;rw [hb] at hb';simp only [jr,Value.slice.injEq] at hb';obtain⟨rfl,rfl,rfl⟩:=hb'
     exact⟨ao,cap,vs,hlen,hr,hx,h0,by rw [hu]⟩
   · exact h
 |p x=>exact h
 |ptr j off=>exact h
 |fpt u l i off=>exact h
 |nilS=>exact h
 |fn f caps=>exact h
 |ifc T agg cs=>exact h
 |any=>exact h
theorem MCs.map {S S':Frz} {bs bs':List Value} {f:C→C} (hf: ∀ c v,MC S bs c v→MC S' bs' (f c) v): ∀ {cs:List C} {vs:List Value},MCs S bs cs vs→MCs S' bs' (cs.map f) vs
 |[],[],_=>trivial
 |_::_,_::_,h=>⟨hf _ _ h.1,MCs.map hf h.2⟩
theorem MVs.map {S S':Frz} {bs bs':List Value} {f:V0→V0} (hf: ∀ c v,MV S bs c v→MV S' bs' (f c) v): ∀ {cs:List V0} {vs:List Value},MVs S bs cs vs→MVs S' bs' (cs.map f) vs
 |[],[],_=>trivial
 |_::_,_::_,h=>⟨hf _ _ h.1,MVs.map hf h.2⟩
theorem V0.xZ {S S':Frz} {bs bs':List Value} {I:Alg} {k:Nat} {u:U} {l:List u.den} (hf: ∀ c v,MC S bs c v→MC S' bs' (c.frz I k u l) v) (c:V0) (v:Value) (h:MV S bs c v):MV S' bs' (c.frz I k u l) v:=by
 cases c with
 |one c=>exact hf c v h
 |agg cs=>obtain⟨vs,h1,h2⟩:=h;exact⟨vs,h1.map hf,h2⟩
theorem D.xZ {S S':Frz} {bs bs':List Value} {I:Alg} {k:Nat} {u:U} {l:List u.den} (hf: ∀ c v,MC S bs c v→MC S' bs' (c.frz I k u l) v) {d:D} {v:Value} (h:MD S bs d v):MD S' bs' (d.frz I k u l) v:=by
 cases d with
 |v x=>exact V0.xZ hf x v h
 |tup vs=>obtain⟨us,h1,h2⟩:=h;exact⟨us,h1.map (V0.xZ hf),h2⟩
 |bad=>trivial
theorem Qg {I:Alg} {k:Nat} {u:U} {l:List u.den}: ∀ {env:List (Nat × D)} {t:Nat} {d:D},look (zbx I k u l env) t=some d→∃ d',look env t=some d'∧d=d'.frz I k u l
 |[],t,d,h=>by cases h
 | (s,d0)::r,t,d,h=>by
   simp only [zbx,xw] at h ⊢
   split at h
   · rename_i hs;cases h;exact⟨d0,by rw [if_pos hs],rfl⟩
   · rename_i hs;obtain⟨d',h1,h2⟩:=Qg h;exact⟨d',by rw [if_neg hs];exact h1,h2⟩
theorem UX {S:Frz} (l:Str):(bvs l).length=l.length * U.byte.size∧∀ (i:Nat) (x:U.byte.den) (j:Nat) (p:P) (v:Value),l[i]? =some x→(enc alg .byte x)[j]? =some p→(bvs l)[i * U.byte.size+j]? =some v→MP S p v:=by
 refine⟨by simp [U.size],fun i x j p v hi hj hv=> ?_⟩
 cases j with
 | zero=>
   simp only [enc,List.getElem?_cons_zero,jr] at hj;subst hj;simp only [U.size,Nat.mul_one,Nat.add_zero] at hv;rw [bvs_getElem?,hi] at hv;cases hv;exact .int _ _
 |succ j=>simp [enc] at hj
theorem At.zhn {w:World} {Eb:Nat} {l:List Chunk}: ∀ {R:List CO} {S:Frz},(∀ c ∈ R,∃ ao n cap cs,c=.row Eb 1 ao n cap cs)→At w (frzC S::(CO.zl R++l))→
  ∃ S',S.le S'∧At w (frzC S'::l)∧∀ ao n cap cs,CO.row Eb 1 ao n cap cs ∈ R→RdS S' 1 (.slice ao n cap) n cs
 |[],S,_,H=>⟨S,Frz.le.refl S,by simpa [CO.zl] using H,fun _ _ _ _ h=>by cases h⟩
 | c::R,S,hR,H=>by
   obtain⟨ao,n,cap,cs,rfl⟩:=hR c (List.mem_cons_self ..);have H1:At w (rowC Eb 1 (.slice ao n cap) n cs::frzC S::(CO.zl R++l)):=(show At w (frzC S::(CO.row Eb 1 ao n cap cs).chunk::(CO.zl R++l)) from H).perm (List.Perm.swap _ _ _);obtain⟨S1,h1,H2,hrd⟩:=At.freeze H1;obtain⟨S2,h2,H3,hall⟩:=At.zhn (fun c hc=>hR c (List.mem_cons_of_mem _ hc)) H2;refine⟨S2,h1.trans h2,H3,fun ao' n' cap' cs' hm=> ?_⟩
   rcases List.mem_cons.1 hm with e|hm
   · cases e;exact hrd.mono h2
   · exact hall _ _ _ _ hm
theorem za3 {X:Ctx} {st:St} {a:Act} {w:World} {S:Frz} {K:List CO} (hH:Heap X st.hp S K w) (hE:Env S (K.map CO.base) st a) (k:Nat):
  ∃ S' K',S.le S'∧K'.map CO.base=K.map CO.base∧Heap X (st.freeze alg k).hp S' K' w∧Env S' (K'.map CO.base) (st.freeze alg k) a:=by
 obtain⟨h1,h2,h3,h4⟩:=hH;unfold St.freeze
 split
 · rename_i u E l ho
   rw [yc] at ho;obtain⟨c,hc,hr⟩:=h3.get ho
   cases hr with
   | @row _ _ _ _ ao cap vs hlen hx=>
     have hbk:=zS hc;obtain⟨p,r,hp1,hp2,hp3⟩:=yM hc;have H:=h4;rw [hp1,zA] at H;have H:=H.perm (zK _ _ _ _ _);obtain⟨S',hle,hat,hrd⟩:=At.freeze H
     have hf: ∀ c v,MC S (K.map CO.base) c v→MC S' (K.map CO.base) (c.frz alg k u l) v:=fun c v hm=>
      C.xZ (by rw [hbk];rfl) hlen (fun i x j p v a b c=>(hx i x j p v a b c).mono hle) hrd (hm.mono hle (Ext.refl _))
     have hbs:(K.set k (.gone (.slice ao l.length cap))).map CO.base=K.map CO.base:=yw hc rfl
     refine⟨S',K.set k (.gone (.slice ao l.length cap)),hle,hbs,⟨h1.trans hle,by rw [hbs];exact h2,?_,?_⟩,?_⟩
     · rw [hbs]
       simp only;rw [yE]
       refine HR.set ⟨by simp [h3.1],fun i o' c' e1 e2=> ?_⟩ k .gone
       rw [List.getElem?_map,Option.map_eq_some_iff] at e1;obtain⟨o0,e3,rfl⟩:=e1;have:=h3.2 i o0 c' e3 e2
       cases this with
       |obj hm=>exact .obj (hm.map hf)
       |row a b=>exact .row a fun i x j p v q1 q2 q3=>(b i x j p v q1 q2 q3).mono hle
       |pack a b=>exact .pack a fun i o c q1 q2=>(b i o c q1 q2).mono hle (Ext.refl _)
       |abs a b=>exact .abs a fun i o c q1 q2=>(b i o c q1 q2).mono hle (Ext.refl _)
       |rws a b c d e=>exact .rws a b c (fun i x j p v q1 q2 q3 q4=>(d i x j p v q1 q2 q3 q4).mono hle) e
       |gone=>exact .gone
     · rw [hp3,zA]
       exact(At.void hat).perm (zK _ _ _ _ _).symm
     · rw [hbs]
       refine⟨hE.size,hE.defers.mono hle (Ext.refl _),fun t d hd=> ?_⟩;obtain⟨d',h5,rfl⟩:=Qg hd;exact D.xZ hf (hE.slots t d' h5)
 · rename_i u E Eb l ho
   rw [yc] at ho;obtain⟨o,ao,cap,vs,R,hA⟩:=HR.rws (w:=w) h3 ho;have hc:=hA.at_
   have hbk:(K.map CO.base)[k]? =some (.slice ao l.length cap):=by rw [zS hc];rfl
   obtain⟨p,r,hp1,hp2,hp3⟩:=yM hc;have H:=h4;rw [hp1,zA] at H;have H:=H.perm (zK _ _ _ _ _);have H:=At.TF H
   have hsh: ∀ c ∈ R,∃ ao n cap cs,c=CO.row Eb 1 ao n cap cs:=fun c hm=>by
    obtain⟨i,hi⟩:=List.getElem?_of_mem hm;have hil:=(jh.1 hi).1;rw [hA.rows] at hil
    have hlt:i * u.size+o<vs.length:=by
     rw [hA.len]
     have h5:i * u.size+u.size≤l.length * u.size:=by rw [← Nat.succ_mul];exact Nat.mul_le_mul_right _ hil
     have:=zdD hA.own;omega
    obtain⟨ao',cap',e,_⟩:=hA.bytes i _ _ c (ji hil) (ji hlt) hi;exact⟨_,_,_,_,e⟩
   have H1:At w (frzC S::(CO.zl R++(rowC E u.size (.slice ao l.length cap) l.length vs::((CO.zl p++CO.zl r)++X.fr)))):=by
    refine(show At w (rowC E u.size (.slice ao l.length cap) l.length vs::(CO.zl R++(frzC S::((CO.zl p++CO.zl r)++X.fr)))) from H).perm ?_;refine List.Perm.trans ?_ (List.perm_middle (l₁:=CO.zl R));exact List.perm_middle.symm.trans (List.Perm.append_left _ (List.Perm.swap _ _ _))
   obtain⟨S1,hle1,hat1,hrd1⟩:=At.zhn hsh H1;obtain⟨S',hle2,hat,hrd⟩:=At.freeze (hat1.perm (List.Perm.swap _ _ _));have hle:=hle1.trans hle2
   have hxs: ∀ (i:Nat) (x:u.den) (j:Nat) (p:P) (v:Value),l[i]? =some x→(enc alg u x)[j]? =some p→vs[i * u.size+j]? =some v→MP S' p v:=fun i x j p v q1 q2 q3=>by
    by_cases hj:j=o
    · subst hj
      have hil:=(jh.1 q1).1
      obtain⟨ao',cap',e,rfl⟩:=hA.bytes i x v _ q1 q3 (ji (by rw [hA.rows];exact hil))
      rw [zkU hA.own] at q2;cases q2;have hb:=hrd1 ao' _ cap' _ (e▸List.getElem_mem _);exact .list .byte (ownB u x) ao' cap' (bvs (ownB u x)) (UX (S:=S') _).1 (hb.mono hle2) (UX _).2
    · exact(hA.cells i x j p v q1 q2 hj q3).mono hle
   have hf: ∀ c v,MC S (K.map CO.base) c v→MC S' (K.map CO.base) (c.frz alg k u l) v:=fun c v hm=>
    C.xZ hbk hA.len hxs hrd (hm.mono hle (Ext.refl _))
   have hbs:(K.set k (.gone (.slice ao l.length cap))).map CO.base=K.map CO.base:=yw hc rfl
   refine⟨S',K.set k (.gone (.slice ao l.length cap)),hle,hbs,⟨h1.trans hle,by rw [hbs];exact h2,?_,?_⟩,?_⟩
   · rw [hbs]
     simp only;rw [yE]
     refine HR.set ⟨by simp [h3.1],fun i o' c' e1 e2=> ?_⟩ k .gone
     rw [List.getElem?_map,Option.map_eq_some_iff] at e1;obtain⟨o0,e3,rfl⟩:=e1;have:=h3.2 i o0 c' e3 e2
     cases this with
     |obj hm=>exact .obj (hm.map hf)
     |row a b=>exact .row a fun i x j p v q1 q2 q3=>(b i x j p v q1 q2 q3).mono hle
     |pack a b=>exact .pack a fun i o c q1 q2=>(b i o c q1 q2).mono hle (Ext.refl _)
     |abs a b=>exact .abs a fun i o c q1 q2=>(b i o c q1 q2).mono hle (Ext.refl _)
     |rws a b c d e=>exact .rws a b c (fun i x j p v q1 q2 q3 q4=>(d i x j p v q1 q2 q3 q4).mono hle) e
     |gone=>exact .gone
   · rw [hp3,zA]
     exact(At.void hat).perm (zK _ _ _ _ _).symm
   · rw [hbs]
     refine⟨hE.size,hE.defers.mono hle (Ext.refl _),fun t d hd=> ?_⟩;obtain⟨d',h5,rfl⟩:=Qg hd;exact D.xZ hf (hE.slots t d' h5)
 · exact⟨S,K,Frz.le.refl S,rfl,⟨h1,h2,h3,h4⟩,hE⟩
end Go.Ab
