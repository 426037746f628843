/- Texts of this proof, one behind the other: Sep Row Ops Args Data Strs Still Heap Mix Calm AbA AbB AbC AbD AbE AbF AbG AbH. -/
import Derived.WalkKit
import Derived.WalkSpells
import Derived.Lib.ConvBytes
import Derived.Below
import Derived.ProofKit
import Derived.SliceStrings
import Derived.StillTailTactics
import Derived.StillTactics
import Derived.Deep.MidRow
import Derived.Laws.MakeOwn
import Derived.OrdersHeld
import Derived.Deep.QuietTactic
import Derived.BigQuiet
import Derived.Lib.SliceRun
import Derived.Deep.Slices
import Derived.Great.BuildSlice
set_option linter.all false
theorem ja {a b:Prop} (x:a) (y:b):a∧b:=⟨x,y⟩
theorem jb:True:=True.intro
theorem jc {a:Prop} (h:False):a:=h.elim
theorem jd:(false=true)=False:=Bool.false_eq_true
theorem je:(true=false)=False:=Bool.true_eq_false
theorem jf:(¬True)=False:=not_true_eq_false
theorem jg:(¬False)=True:=not_false_eq_true
theorem jh:type_of% @List.length_cons.{0}:=@List.length_cons.{0}
theorem ji:type_of% @List.length_nil.{0}:=@List.length_nil.{0}
theorem jk:type_of% @List.length_append.{0}:=@List.length_append.{0}
theorem jl:type_of% @List.getElem?_eq_some_iff.{0}:=@List.getElem?_eq_some_iff.{0}
theorem jm:type_of% @List.getElem?_eq_getElem.{0}:=@List.getElem?_eq_getElem.{0}
theorem jo:type_of% @List.append_assoc.{0}:=@List.append_assoc.{0}
theorem jq:type_of% @List.take_of_length_le.{0}:=@List.take_of_length_le.{0}
theorem jr:type_of% @List.length_singleton.{0}:=@List.length_singleton.{0}
theorem jv:type_of% @List.length_take.{0}:=@List.length_take.{0}
theorem jw:type_of% @Option.some.injEq.{0}:=@Option.some.injEq.{0}
theorem jy:type_of% @List.getElem?_append_left.{0}:=@List.getElem?_append_left.{0}
theorem jA:type_of% @List.getElem?_append_right.{0}:=@List.getElem?_append_right.{0}
theorem jB:type_of% @List.take_succ_eq_append_getElem.{0}:=@List.take_succ_eq_append_getElem.{0}
theorem jC:type_of% @List.length_drop.{0}:=@List.length_drop.{0}
theorem jD:type_of% @List.getElem?_take.{0}:=@List.getElem?_take.{0}
theorem jE:type_of% @List.drop_eq_getElem_cons.{0}:=@List.drop_eq_getElem_cons.{0}
theorem jF:type_of% @List.drop_of_length_le.{0}:=@List.drop_of_length_le.{0}
theorem jG:type_of% @List.getElem?_drop.{0}:=@List.getElem?_drop.{0}
theorem jH:type_of% @List.getD_eq_getElem?_getD.{0}:=@List.getD_eq_getElem?_getD.{0}
theorem jI:type_of% @Nat.eq_of_beq_eq_true:=@Nat.eq_of_beq_eq_true
theorem jJ:type_of% @Int.toNat_natCast:=@Int.toNat_natCast
theorem jK:type_of% @Bool.and_eq_true:=@Bool.and_eq_true
theorem jL:type_of% @Nat.le_refl:=@Nat.le_refl
theorem jM:type_of% @Nat.zero_le:=@Nat.zero_le
namespace Go.Sep
open Go
structure Keeps (F:Nat→Prop) (w w':World):Prop where
 os:w'.os=w.os
 tape:w'.tape=w.tape
 output:w'.output=w.output
 size:w.heap.size≤w'.heap.size
 block: ∀ k,F k→w'.heap[k]? =w.heap[k]?
theorem Keeps.refl (F:Nat→Prop) (w:World):Keeps F w w:=⟨rfl,rfl,rfl,jL _,fun _ _=>rfl⟩
theorem Keeps.trans {F:Nat→Prop} {a b c:World} (h:Keeps F a b) (k:Keeps F b c):Keeps F a c:=
 ⟨k.os.trans h.os,k.tape.trans h.tape,k.output.trans h.output,Nat.le_trans h.size k.size,fun i hi=>(k.block i hi).trans (h.block i hi)⟩
theorem Keeps.mono {F G:Nat→Prop} {w w':World} (h:Keeps F w w') (hg: ∀ k,G k→F k):Keeps G w w':=
 ⟨h.os,h.tape,h.output,h.size,fun k hk=>h.block k (hg k hk)⟩
structure Chunk where
 holds:World→(Nat→Prop)→Prop
 lt: ∀ {w F},holds w F→∀ k,F k→k<w.heap.size
 keep: ∀ {w w' F},holds w F→Keeps F w w'→holds w' F
def sep:List Chunk→World→(Nat→Prop)→Prop
 |[],_,F=>∀ k,¬ F k
 |c::l,w,F=>∃ A B,(∀ k,F k↔A k∨B k)∧(∀ k,A k→¬ B k)∧c.holds w A∧sep l w B
def At (w:World) (l:List Chunk):Prop:=∃ F,sep l w F
theorem zn4 {l:List Chunk} {w:World} {F G:Nat→Prop} (h:sep l w F) (e: ∀ k,G k↔F k):sep l w G:=by
 have:G=F:=funext fun k=>propext (e k);rw [this];exact h
theorem zjQ {l:List Chunk} {w:World} {F:Nat→Prop} (h:sep l w F): ∀ k,F k→k<w.heap.size:=by
 induction l generalizing F with
 |nil=>intro k hk;exact(h k hk).elim
 | cons c l ih=>
   obtain⟨A,B,e,_,hc,hl⟩:=h;intro k hk
   rcases(e k).1 hk with h1|h1
   · exact c.lt hc k h1
   · exact ih hl k h1
theorem Ru {l:List Chunk} {w w':World} {F:Nat→Prop} (h:sep l w F) (hk:Keeps F w w'):sep l w' F:=by
 induction l generalizing F with
 |nil=>exact h
 | cons c l ih=>
   obtain⟨A,B,e,d,hc,hl⟩:=h;exact⟨A,B,e,d,c.keep hc (hk.mono fun k h=>(e k).2 (.inl h)),ih hl (hk.mono fun k h=>(e k).2 (.inr h))⟩
theorem zjO {c d:Chunk} {l:List Chunk} {w:World} {F:Nat→Prop} (h:sep (c::d::l) w F):sep (d::c::l) w F:=by
 obtain⟨A,B,e,dj,hc,A',B',e',dj',hd,hl⟩:=h;refine⟨A',fun k=>A k∨B' k,?_,?_,hd,A,B',fun k=>Iff.rfl,?_,hc,hl⟩
 · intro k;rw [e k,e' k];constructor
   · rintro(h|h|h)<;>simp [h]
   · rintro(h|h|h)<;>simp [h]
 · rintro k h (h1|h1)
   · exact dj k h1 ((e' k).2 (.inl h))
   · exact dj' k h h1
 · intro k h h1;exact dj k h ((e' k).2 (.inr h1))
theorem zjP {l m:List Chunk} (p:l.Perm m): ∀ {w:World} {F:Nat→Prop},sep l w F→sep m w F:=by
 induction p with
 |nil=>intro w F h;exact h
 |cons c _ ih=>intro w F h;obtain⟨A,B,e,d,hc,hl⟩:=h;exact⟨A,B,e,d,hc,ih hl⟩
 |swap c d l=>intro w F h;exact zjO h
 |trans _ _ ih1 ih2=>intro w F h;exact ih2 (ih1 h)
theorem At.perm {l m:List Chunk} {w:World} (h:At w l) (p:l.Perm m):At w m:=h.imp fun _ hF=>zjP p hF
theorem Yc: ∀ (l:List Chunk) (i:Nat) (c:Chunk),l[i]? =some c→l.Perm (c::l.eraseIdx i)
 |[],i,c,h=>by simp at h
 |d::l,0,c,h=>by simp at h;subst h;exact .refl _
 | d::l,i+1,c,h=>by
   have h':l[i]? =some c:=by simpa using h
   have ih:=Yc l i c h';exact(ih.cons d).trans (.swap _ _ _)
theorem At.pull {l:List Chunk} {w:World} (h:At w l) (i:Nat) (c:Chunk) (hc:l[i]? =some c):At w (c::l.eraseIdx i):=h.perm (Yc l i c hc)
theorem At.swap {c d:Chunk} {l:List Chunk} {w:World} (h:At w (c::d::l)):At w (d::c::l):=h.imp fun _=>zjO
theorem At.rot2 {a b c:Chunk} {l:List Chunk} {w:World} (h:At w (a::b::c::l)):At w (c::a::b::l):=
 h.perm ((List.Perm.swap c b l |>.cons a).trans (List.Perm.swap c a (b::l)))
theorem At.rot3 {a b c d:Chunk} {l:List Chunk} {w:World} (h:At w (a::b::c::d::l)):At w (d::a::b::c::l):=
 h.perm ((((List.Perm.swap d c l).cons b).trans (List.Perm.swap d b (c::l))).cons a |>.trans (List.Perm.swap d a (b::c::l)))
theorem At.tail {c:Chunk} {l:List Chunk} {w:World} (h:At w (c::l)):At w l:=by
 obtain⟨F,A,B,_,_,_,hl⟩:=h;exact⟨B,hl⟩
theorem At.head {c:Chunk} {l:List Chunk} {w:World} (h:At w (c::l)): ∃ A,c.holds w A:=by
 obtain⟨F,A,B,_,_,hc,_⟩:=h;exact⟨A,hc⟩
theorem At.step {c c':Chunk} {l:List Chunk} {w w':World} (H:At w (c::l))
  (h: ∀ A,c.holds w A→∃ A',c'.holds w' A'∧(∀ k,A' k→A k∨w.heap.size≤k)∧Keeps (fun k=>k<w.heap.size∧¬ A k) w w'):At w' (c'::l):=by
 obtain⟨F,A,B,e,d,hc,hl⟩:=H;obtain⟨A',hc',hA',hk⟩:=h A hc;have hlt:=zjQ hl;refine⟨fun k=>A' k∨B k,A',B,fun _=>Iff.rfl,?_,hc',Ru hl (hk.mono fun k hB=>⟨hlt k hB,fun hA=>d k hA hB⟩)⟩;intro k h1 h2
 rcases hA' k h1 with h3|h3
 · exact d k h3 h2
 · have:=hlt k h2;omega
theorem At.new {c':Chunk} {l:List Chunk} {w w':World} (H:At w l) {A':Nat→Prop} (hc':c'.holds w' A') (hA': ∀ k,A' k→w.heap.size≤k)
  (hk:Keeps (fun k=>k<w.heap.size) w w'):At w' (c'::l):=by
 obtain⟨B,hl⟩:=H;have hlt:=zjQ hl;refine⟨fun k=>A' k∨B k,A',B,fun _=>Iff.rfl,?_,hc',Ru hl (hk.mono fun k hB=>hlt k hB)⟩;intro k h1 h2;have:=hlt k h2;have:=hA' k h1;omega
theorem At.keep {l:List Chunk} {w w':World} (H:At w l) (hk:Keeps (fun k=>k<w.heap.size) w w'):At w' l:=by
 obtain⟨B,hl⟩:=H;exact⟨B,Ru hl (hk.mono (zjQ hl))⟩
theorem zmC (w:World) (F:Nat→Prop):Keeps F w w.drew:=⟨rfl,rfl,rfl,jL _,fun _ _=>rfl⟩
theorem vU (w:World) (o:Obj):Keeps (fun k=>k<w.heap.size) w (w.alloc o):=
 ⟨rfl,rfl,rfl,by simp,fun k hk=>by show(w.heap.push o)[k]? =_;rw [Array.getElem?_push,if_neg (by omega)]⟩
theorem At.drew {l:List Chunk} {w:World} (H:At w l):At w.drew l:=H.keep (zmC w _)
theorem At.drewN {l:List Chunk} {w:World} (H:At w l) (n:Nat):At { w with drawn:=n} l:=H.keep ⟨rfl,rfl,rfl,jL _,fun _ _=>rfl⟩
def exC {α:Type} (f:α→Chunk):Chunk where
 holds w F:=∃ x,(f x).holds w F
 lt:=fun⟨x,h⟩=>(f x).lt h
 keep:=fun⟨x,h⟩ k=>⟨x,(f x).keep h k⟩
def sepC (l:List Chunk):Chunk where
 holds w F:=sep l w F
 lt:=zjQ
 keep:=Ru
def zoZ (p:Prop):Chunk where
 holds _ F:=p∧∀ k,¬ F k
 lt:=fun h k hk=>(h.2 k hk).elim
 keep:=fun h _=>h
theorem At.ex {α:Type} {f:α→Chunk} {l:List Chunk} {w:World}:At w (exC f::l)↔∃ x,At w (f x::l):=by
 constructor
 · rintro⟨F,A,B,e,d,⟨x,hx⟩,hl⟩;exact⟨x,F,A,B,e,d,hx,hl⟩
 · rintro⟨x,F,A,B,e,d,hx,hl⟩;exact⟨F,A,B,e,d,⟨x,hx⟩,hl⟩
theorem At.pure {p:Prop} {l:List Chunk} {w:World}:At w (zoZ p::l)↔p∧At w l:=by
 constructor
 · rintro⟨F,A,B,e,d,⟨hp,_⟩,hl⟩;exact⟨hp,B,hl⟩
 · rintro⟨hp,B,hl⟩;exact⟨B,fun _=>False,B,fun k=>by simp,fun _ h=>h.elim,⟨hp,fun _ h=>h⟩,hl⟩
theorem Uw {l m:List Chunk} {w:World} {F:Nat→Prop}:sep (l++m) w F↔∃ A B,(∀ k,F k↔A k∨B k)∧(∀ k,A k→¬ B k)∧sep l w A∧sep m w B:=by
 induction l generalizing F with
 | nil=>
   constructor
   · intro h;exact⟨fun _=>False,F,fun k=>by simp,fun _ h=>h.elim,fun _ h=>h,h⟩
   · rintro⟨A,B,e,_,hA,hB⟩;exact zn4 hB fun k=>by rw [e k];simp [hA k]
 | cons c l ih=>
   constructor
   · rintro⟨A,B,e,d,hc,h⟩
     obtain⟨A',B',e',d',h1,h2⟩:=ih.1 h;refine⟨fun k=>A k∨A' k,B',?_,?_,⟨A,A',fun _=>Iff.rfl,fun k h3 h4=>d k h3 ((e' k).2 (.inl h4)),hc,h1⟩,h2⟩
     · intro k;rw [e k,e' k,or_assoc]
     · rintro k (h3|h3) h4
       · exact d k h3 ((e' k).2 (.inr h4))
       · exact d' k h3 h4
   · rintro⟨A,B,e,d,⟨A',B',e',d',hc,h1⟩,h2⟩
     refine⟨A',fun k=>B' k∨B k,?_,?_,hc,ih.2 ⟨B',B,fun _=>Iff.rfl,fun k h3 h4=>d k ((e' k).2 (.inr h3)) h4,h1,h2⟩⟩
     · intro k;rw [e k,e' k,or_assoc]
     · rintro k h3 (h4|h4)
       · exact d' k h3 h4
       · exact d k ((e' k).2 (.inl h3)) h4
theorem At.many {m l:List Chunk} {w:World}:At w (sepC m::l)↔At w (m++l):=by
 constructor
 · rintro⟨F,A,B,e,d,h1,h2⟩;exact⟨F,Uw.2 ⟨A,B,e,d,h1,h2⟩⟩
 · rintro⟨F,h⟩;obtain⟨A,B,e,d,h1,h2⟩:=Uw.1 h;exact⟨F,A,B,e,d,h1,h2⟩
def objC (b:Nat) (T:TypeId) (cs:List Value):Chunk where
 holds w F:=(∀ k,F k↔k=b)∧w.heap[b]? =some (.cells cs.toArray T (0,0))
 lt:=fun h k hk=>by
  have:=(h.1 k).1 hk;subst this;exact(Array.getElem?_eq_some_iff.1 h.2).1
 keep:=fun h hk=>⟨h.1,(hk.block _ ((h.1 _).2 rfl)).trans h.2⟩
theorem At.obj {b:Nat} {T:TypeId} {cs:List Value} {l:List Chunk} {w:World} (H:At w (objC b T cs::l)):w.heap[b]? =some (.cells cs.toArray T (0,0)):=by
 obtain⟨A,h⟩:=H.head;exact h.2
theorem ziW {w:World} {b:Nat} {T:TypeId} {cs:List Value} (h:w.heap[b]? =some (.cells cs.toArray T (0,0))) (i:Nat):w.cell? ⟨b,i,none⟩=cs[i]? :=by
 simp [World.cell?,h]
theorem ziC {w:World} {b:Nat} {T:TypeId} {cs:List Value} (h:w.heap[b]? =some (.cells cs.toArray T (0,0))) (i:Nat):w.frozen? ⟨b,i,none⟩=false:=by
 simp [World.frozen?,h]
theorem At.cell {b:Nat} {T:TypeId} {cs:List Value} {l:List Chunk} {w:World} (H:At w (objC b T cs::l)) (i:Nat):w.cell? ⟨b,i,none⟩=cs[i]? :=ziW H.obj i
theorem At.free {b:Nat} {T:TypeId} {cs:List Value} {l:List Chunk} {w:World} (H:At w (objC b T cs::l)) (i:Nat):w.frozen? ⟨b,i,none⟩=false:=ziC H.obj i
theorem zeb (w:World) (a:Addr) (u:Value):Keeps (fun k=>k≠a.block) w (w.setCell a u):=
 ⟨rfl,rfl,rfl,by simp [World.setCell],fun k hk=>by simp only [World.setCell,Array.getElem?_modify];rw [if_neg (by omega)]⟩
theorem SC {w:World} {b:Nat} {T:TypeId} {cs:List Value} (h:w.heap[b]? =some (.cells cs.toArray T (0,0))) (i:Nat) (u:Value):
  (w.setCell ⟨b,i,none⟩ u).heap[b]? =some (.cells (cs.set i u).toArray T (0,0)):=by
 simp [World.setCell,Array.getElem?_modify,h,List.setIfInBounds_toArray]
theorem At.store {b:Nat} {T:TypeId} {cs:List Value} {l:List Chunk} {w:World} (H:At w (objC b T cs::l)) (i:Nat) (u:Value):
  At (w.setCell ⟨b,i,none⟩ u) (objC b T (cs.set i u)::l):=
 H.step fun A hA=>⟨A,⟨hA.1,SC hA.2 i u⟩,fun _ h=>.inl h,(zeb w ⟨b,i,none⟩ u).mono fun k hk e=>hk.2 ((hA.1 k).2 e)⟩
theorem At.zlY {l:List Chunk} {w:World} (H:At w l) (cs:List Value) (T:TypeId):At (w.alloc (.cells cs.toArray T)) (objC w.heap.size T cs::l):=
 H.new (A':=fun k=>k=w.heap.size) ⟨fun _=>Iff.rfl,by show(w.heap.push _)[_]? =_;simp⟩ (fun k h=>by omega) (vU w _)
def initC (W:World):Chunk where
 holds w F:=(∀ k,F k↔k<W.heap.size)∧Keeps (fun k=>k<W.heap.size) W w
 lt:=fun h k hk=>Nat.lt_of_lt_of_le ((h.1 k).1 hk) h.2.size
 keep:=fun h hk=>⟨h.1,h.2.trans (hk.mono fun k h1=>(h.1 k).2 h1)⟩
open Go.RowKit in
theorem At.below {W w:World} {l:List Chunk} (H:At w (initC W::l)):Below W.heap.size W w:=by
 obtain⟨A,_,h⟩:=H.head;exact⟨h.os,h.tape,h.output,h.size,h.block⟩
end Go.Sep
namespace Go.Sep
open Go
def blk (ao:Option Addr):Nat:=match ao with|some a=>a.block|none=>0
def ofs (ao:Option Addr):Nat:=match ao with|some a=>a.off|none=>0
def adr (ao:Option Addr) (j:Nat):Addr:=⟨blk ao,ofs ao+j,none⟩
def Rd (w:World) (size:Nat) (v:Value) (n:Nat) (cs:List Value):Prop:=
 ∃ ao cap,v=.slice ao n cap∧n≤cap∧cap≤maxLen∧(ao=none→cap=0)∧cs.length=n * size∧
   ∀ j u,cs[j]? =some u→(∃ a,ao=some a∧a.spot=none)∧w.cell? (adr ao j)=some u
theorem YB {a:Addr} (h:a.spot=none) (j:Nat):a.add j=adr (some a) j:=by
 cases a with|mk b o s=>cases h;unfold Addr.add adr blk ofs;split<;>simp_all
def Src (P:Program) (w:World) (size:Nat) (x:Value) (m:Nat) (news:List Value):Prop:=
 news.length=m * size∧(∀ w',(Builtin.lenOf x).run P w'=.ok m w')∧∀ w',w'.heap=w.heap→(Builtin.firstCells size m x).run P w'=.ok news.toArray w'
theorem zrb {w w':World} (h:w'.heap=w.heap) (a:Addr):w'.cell? a=w.cell? a:=by simp [World.cell?,h]
theorem Rd.src {P:Program} {w:World} {size:Nat} {v:Value} {n:Nat} {cs:List Value} (h:Rd w size v n cs):Src P w size v n cs:=by
 obtain⟨ao,cap,rfl,_,_,_,hl,hc⟩:=h;refine⟨hl,fun w'=>rfl,fun w' hw=> ?_⟩
 cases ao with
 | none=>
   have:cs=[]:=by
    cases cs with
    |nil=>rfl
    |cons u r=>obtain⟨⟨a,h,_⟩,_⟩:=hc 0 u rfl;cases h
   subst this
   simp [Builtin.firstCells]
 | some a=>
   refine run_firstCells_some w' size n a n cap cs hl fun j u hu=> ?_;obtain⟨⟨a',h1,h2⟩,h3⟩:=hc j u hu;cases h1;rw [YB h2,zrb hw];exact h3
def bv (c:UInt8):Value:=.int .u8 (c.toNat:Int)
def bvs (l:List UInt8):List Value:=l.map bv
@[simp] theorem bvs_length (l:List UInt8):(bvs l).length=l.length:=by simp [bvs]
theorem bvs_getElem? (l:List UInt8) (j:Nat):(bvs l)[j]? =(l[j]?).map bv:=by simp [bvs]
theorem zl7 {P:Program} {w:World} (s:ByteArray):Src P w 1 (.string s) s.size (bvs s.data.toList):=by
 refine⟨by simp [bvs],fun w'=>rfl,fun w' _=> ?_⟩
 have hx:(Array.map (fun b:UInt8=>Value.int IntKind.u8 (b.toNat:Int)) s.data).extract 0 s.size=Array.map (fun b:UInt8=>Value.int IntKind.u8 (b.toNat:Int)) s.data:=by
  have hs:s.size=(Array.map (fun b:UInt8=>Value.int IntKind.u8 (b.toNat:Int)) s.data).size:=by rw [Array.size_map];rfl
  rw [hs,Array.extract_size]
 have e:(s.extract 0 s.size)=s:=by simp
 simp only [Builtin.firstCells,e,Sem.run_pure]
 congr 1
 apply Array.ext'
 simp [bvs,bv]
def Free (fz:Nat × Nat) (n:Nat):Prop:=fz.1=fz.2∨n≤fz.1
theorem Free.cell {fz:Nat × Nat} {n:Nat} (h:Free fz n): ∀ j,j<n→¬ (fz.1≤j∧j<fz.2):=fun j hj hc=>by unfold Free at h;omega
def Owns (w:World) (E size:Nat) (v:Value) (n:Nat) (xs:List Value):Prop:=
 xs.length=n * size∧
 ((v=.slice none 0 0∧n=0)∨
  ∃ g cap cur fz,v=.slice (some ⟨g,0,none⟩) n cap∧w.heap[g]? =some (.cells cur E fz)∧Free fz cur.size∧n≤cap∧cap≤maxLen∧cap * size≤cur.size∧cur.toList.take (n * size)=xs)
def rowC (E size:Nat) (v:Value) (n:Nat) (xs:List Value):Chunk where
 holds w F:=(∀ k,F k↔v.ownBlock=some k)∧Owns w E size v n xs
 lt:=by
  rintro w F ⟨hF,hl,hv⟩ k hk;have hk:=(hF k).1 hk
  rcases hv with⟨rfl,_⟩|⟨g,cap,cur,fz,rfl,hg,_⟩
  · simp [Value.ownBlock] at hk
  · simp [Value.ownBlock] at hk;subst hk;exact(Array.getElem?_eq_some_iff.1 hg).1
 keep:=by
  rintro w w' F ⟨hF,hl,hv⟩ hk;refine⟨hF,hl,?_⟩
  rcases hv with h|⟨g,cap,cur,fz,rfl,hg,r⟩
  · exact .inl h
  · exact .inr ⟨g,cap,cur,fz,rfl,(hk.block g ((hF g).2 rfl)).trans hg,r⟩
theorem Owns.rd {w:World} {E size:Nat} {v:Value} {n:Nat} {xs:List Value} (h:Owns w E size v n xs):Rd w size v n xs:=by
 obtain⟨hl,⟨rfl,rfl⟩|⟨g,cap,cur,fz,rfl,hg,_,hnc,hcm,hcs,ht⟩⟩:=h
 · have:xs=[]:=List.eq_nil_of_length_eq_zero (by simpa using hl)
   subst this
   exact⟨none,0,rfl,jL _,jM _,fun _=>rfl,by simp,fun j u h=>by simp at h⟩
 · refine⟨_,cap,rfl,hnc,hcm,(fun h=>by cases h),hl,fun j u hu=>⟨⟨_,rfl,rfl⟩,?_⟩⟩
   rw [← ht,jD] at hu
   split at hu
   · simp only [adr,blk,ofs,World.cell?,hg,Nat.zero_add];simpa using hu
   · cases hu
theorem At.rd {w:World} {E size:Nat} {v:Value} {n:Nat} {xs:List Value} {l:List Chunk} (H:At w (rowC E size v n xs::l)):Rd w size v n xs:=by
 obtain⟨A,h⟩:=H.head;exact h.2.rd
theorem At.zdM {w:World} {E size:Nat} {v:Value} {n:Nat} {xs:List Value} {l:List Chunk} (H:At w (rowC E size v n xs::l)): ∃ ao cap,v=.slice ao n cap:=by
 obtain⟨ao,cap,h,_⟩:=H.rd;exact⟨ao,cap,h⟩
theorem At.nilRow {w:World} {l:List Chunk} (H:At w l) (E size:Nat):At w (rowC E size (.slice none 0 0) 0 []::l):=
 H.new (A':=fun _=>False) ⟨fun k=>by simp [Value.ownBlock],by simp,.inl ⟨rfl,rfl⟩⟩ (fun _ h=>h.elim) (Keeps.refl _ _)
theorem At.QX {w:World} {l:List Chunk} (H:At w l) (E size n:Nat) (cs:Array Value) (fz:Nat × Nat) (hcs:cs.size=n * size) (hn:n≤maxLen) (hf:Free fz cs.size):
  At (w.alloc (.cells cs E fz)) (rowC E size (.slice (some ⟨w.heap.size,0,none⟩) n n) n cs.toList::l):=
 H.new (A':=fun k=>k=w.heap.size) ⟨fun k=>⟨fun h=>by rw [h];rfl,fun h=>by cases h;rfl⟩,by simpa using hcs,.inr ⟨w.heap.size,n,cs,fz,rfl,heap_alloc_new w _,hf,jL _,hn,Nat.le_of_eq hcs.symm,jq (by simp [hcs])⟩⟩
  (fun k h=>by omega) (vU w _)
theorem vF (n:Nat):Free (0,0) n:=.inl rfl
theorem yK (P:Program) (g o:Nat) (t:TypeId) (fz:Nat × Nat): ∀ (vs:List Value) (i:Nat) (cur:Array Value) (w:World),w.heap[g]? =some (.cells cur t fz)→Free fz cur.size→o+i+vs.length≤cur.size→(∀ v ∈ vs,v.oneCell'=true)→
  (storeCells ⟨g,o,none⟩ vs i).run P w=.ok () (w.setRow g (cur.toList.take (o+i)++vs++cur.toList.drop (o+i+vs.length)).toArray)
 | [],i,cur,w,hg,_,_,_=>by
   simp only [storeCells,List.append_nil,ji,Nat.add_zero,List.take_append_drop,Array.toArray_toList];rw [setRow_self w g cur t fz hg];rfl
 | v ::rest,i,cur,w,hg,hfz,hl,h1=>by
   have hi:o+i<cur.size:=by simp at hl;omega
   have hadd:(⟨g,o,none⟩:Addr).add i=⟨g,o+i,none⟩:=by unfold Addr.add;split<;>simp_all
   have hcell:w.cell? ⟨g,o+i,none⟩=some cur[o+i]:=by simp [World.cell?,hg,hi]
   have hfro:w.frozen? ⟨g,o+i,none⟩=false:=by
    obtain⟨lo,hi'⟩:=fz;have:=hfz.cell (o+i) hi;simp only [World.frozen?,hg,Bool.and_eq_false_iff,decide_eq_false_iff_not];simp only at this;omega
   have hst:(store ((⟨g,o,none⟩:Addr).add i) v).run P w=.ok () (w.setRow g (cur.setIfInBounds (o+i) v)):=by
    rw [hadd,run_store P w _ v _ (h1 v (by simp)),hcell]
    simp [hfro,setCell_eq_setRow w g (o+i) cur t fz v hg]
   have ih:=yK P g o t fz rest (i+1) (cur.setIfInBounds (o+i) v) (w.setRow g (cur.setIfInBounds (o+i) v)) (setRow_heap w g cur _ t _ hg) (by simpa using hfz) (by simp at hl ⊢;omega) (fun x hx=>h1 x (by simp [hx]))
   simp only [storeCells,Sem.run_bind,hst,Result.andThen_ok,ih,setRow_setRow]
   congr 3
   have e:=list_seg_step cur.toList (o+i) v rest (by simp at hl ⊢;omega)
   simpa [Array.toList_setIfInBounds,Nat.add_assoc] using e
theorem uG (w:World) (g:Nat) (cs:Array Value):Keeps (fun k=>k≠g) w (w.setRow g cs):=
 ⟨rfl,rfl,rfl,by simp [World.setRow],fun k hk=>setRow_other w g k cs hk⟩
theorem zmg {P:Program} {w:World} {l:List Chunk} (t u ty E:TypeId) (i:TypeInfo) (z:Value) (size bytes:Nat) (ht:P.underlying t=some (.slice E)) {ud:TypeDesc} (hu:P.underlying u=some ud) (hud: ∀ k,ud≠ .int k)
  (hi:P.info? E=some i) (hz:i.zero=some z) (hsize:i.size=size) (hby:i.bytes=bytes) (hzs:z.cells.size=size)
  (v:Value) (n:Nat) (xs:List Value) (H:At w (rowC E size v n xs::l)) (x:Value) (m:Nat) (news:List Value) (hx:Src P w size x m news) (h1: ∀ u ∈ news,u.oneCell'=true)
  (h63:n+m≤maxLen) (hbytes:(n+m) * bytes≤140737488355328):
  ∃ v' w',(Builtin.append_ #[t,u] ty #[v,x]).run P w=.ok v' w'∧At w' (rowC E size v' (n+m) (xs++news)::l):=by
 subst hsize;subst hby;obtain⟨hl,hlen,hfirst⟩:=hx
 have hsmall:n+m≤9223372036854775807:=by simp only [maxLen] at h63;omega
 obtain⟨A0,hA0⟩:=H.head;have hown:=hA0.2
 have hlen2:(xs++news).length=(n+m) * i.size:=by rw [jk,hown.1,hl,Nat.add_mul]
 have grown: ∀ (old:Nat),old<n+m→
   At (w.drew.alloc (.cells (xs.toArray++news.toArray++Builtin.zeroCells z.cells (grownCap w (n+m) old E - (n+m))) E))
    (rowC E i.size (.slice (some ⟨w.heap.size,0,none⟩) (n+m) (grownCap w (n+m) old E)) (n+m) (xs++news)::l):=by
  intro old ho;have hge:=grownCap_ge w (n+m) old E;have hcm:grownCap w (n+m) old E≤maxLen:=grownCap_le_maxLen w (n+m) old E h63
  refine(H.tail.drew).new (A':=fun k=>k=w.heap.size) ⟨fun k=>by simp [Value.ownBlock,eq_comm],hlen2,.inr ⟨w.heap.size,_,_,(0,0),rfl,heap_alloc_new w.drew _,vF _,hge,hcm,?_,?_⟩⟩ (fun k h=>by simp [h]) (vU w.drew _)
  · refine Nat.le_of_eq (Eq.symm ?_)
    simp only [Array.size_append,List.size_toArray,size_zeroCells,hzs,hown.1,hl,← Nat.add_mul]
    congr 1
    omega
  · simp only [Array.toList_append,jo]
    rw [← jo,← hlen2];exact List.take_left
 have hf0:(Builtin.firstCells i.size m x).run P w=.ok news.toArray w:=hfirst w rfl;have hf1:(Builtin.firstCells i.size m x).run P w.drew=.ok news.toArray w.drew:=hfirst w.drew rfl
 rcases hown.2 with⟨rfl,rfl⟩|⟨g,cap,cur,fz,rfl,hg,hfree,hnc,hcm,hcs,htake⟩
 · have hx:xs=[]:=List.eq_nil_of_length_eq_zero (by simpa using hown.1)
   subst hx
   by_cases hm:m=0
   · subst hm
     have hn:news=[]:=List.eq_nil_of_length_eq_zero (by simpa using hl)
     subst hn
     refine⟨.slice none 0 0,w,?_,by simpa using H⟩
     simp [Builtin.append_,run_underlying ht,run_underlying hu,sizeOf,typeInfo,hi,hlen,hf0]
   · have h63': ¬ (9223372036854775807<(m:Int)):=by omega
     have h48': ¬ (281474976710656<Builtin.nextslicecap m 0 * i.bytes):=by
      have:=growslice_fits (need:=m) (old:=0) (bytes:=i.bytes) (by omega) (by simpa using hbytes);omega
     have hgr:=grown 0 (by omega)
     simp only [Nat.zero_add,List.nil_append,Array.empty_append] at hgr
     refine⟨_,_,?_,by simpa using hgr⟩
     simp [Builtin.append_,run_underlying ht,run_underlying hu,sizeOf,typeInfo,zeroValue,hi,hz,hlen,hm,h63',h48',Question.forced,run_firstCells_none,hf1,newRow,grownCap]
 · by_cases hroom:n+m≤cap
   · have hfit:n * i.size+news.length≤cur.size:=by rw [hl,← Nat.add_mul];exact Nat.le_trans (Nat.mul_le_mul_right _ hroom) hcs
     have hst:=yK P g (n * i.size) E fz news 0 cur w hg hfree (by simpa using hfit) h1
     simp only [Nat.add_zero] at hst
     have hsz:(cur.toList.take (n * i.size)++news++cur.toList.drop (n * i.size+news.length)).length=cur.size:=by
      simp only [jk,jv,jC,Array.length_toList];omega
     refine⟨.slice (some ⟨g,0,none⟩) (n+m) cap,w.setRow g (cur.toList.take (n * i.size)++news++cur.toList.drop (n * i.size+news.length)).toArray,?_,H.step fun A hA=>⟨A,⟨fun k=>by rw [hA.1 k];simp [Value.ownBlock],hlen2,.inr ⟨g,cap,_,fz,rfl,setRow_heap w g cur _ E _ hg,?_,hroom,hcm,?_,?_⟩⟩,fun _ h=>.inl h,(uG w g _).mono fun k hk e=>hk.2 ((hA.1 k).2 (by simp [Value.ownBlock,e]))⟩⟩
     · simp [Builtin.append_,run_underlying ht,run_underlying hu,sizeOf,typeInfo,hi,hlen,hroom,hf0,Addr.add_lit,hst]
     · simpa only [List.size_toArray,hsz] using hfree
     · simpa only [List.size_toArray,hsz] using hcs
     · rw [htake,← hlen2]
       exact List.take_left
   · have hn: ¬ (n+m≤cap):=hroom
     have h63': ¬ (9223372036854775807<((n:Int)+(m:Int))):=by omega
     have h48': ¬ (281474976710656<Builtin.nextslicecap (n+m) cap * i.bytes):=by
      have:=growslice_fits (need:=n+m) (old:=cap) (bytes:=i.bytes) (by omega) hbytes;omega
     have hrd:Src P w i.size (.slice (some ⟨g,0,none⟩) n cap) n xs:=hown.rd.src;have hfo:=hrd.2.2 w.drew rfl
     refine⟨_,_,?_,grown cap (by omega)⟩
     simp [Builtin.append_,run_underlying ht,run_underlying hu,sizeOf,typeInfo,zeroValue,hi,hz,hlen,hn,h63',h48',Question.forced,hf1,hfo,newRow,grownCap]
     congr 2
     apply Array.ext'
     simp [jo]
theorem zh2 {P:Program} {w:World} {l:List Chunk} (t u ty E:TypeId) (i:TypeInfo) (z:Value) (size bytes:Nat) (ht:P.underlying t=some (.slice E)) {ud:TypeDesc} (hu:P.underlying u=some ud) (hud: ∀ k,ud≠ .int k)
  (hi:P.info? E=some i) (hz:i.zero=some z) (hsize:i.size=size) (hby:i.bytes=bytes) (hzs:z.cells.size=size)
  (v:Value) (n:Nat) (xs:List Value) (H:At w (rowC E size v n xs::l)) (x:Value) (m:Nat) (news:List Value) (hx:Src P w size x m news) (h1: ∀ u ∈ news,u.oneCell'=true)
  (h63:n+m≤maxLen) (hbytes:(n+m) * bytes≤140737488355328):
  ∃ v' w',(Builtin.append_ #[t,u] ty #[v,x]).run P w=.ok v' w'∧(At w' (rowC E size v' (n+m) (xs++news)::rowC E size v n xs::l)∨(At w' (rowC E size v' (n+m) (xs++news)::l)∧∃ g cap,v=.slice (some g) n cap∧v'=.slice (some g) (n+m) cap)):=by
 subst hsize;subst hby;obtain⟨hl,hlen,hfirst⟩:=hx
 have hsmall:n+m≤9223372036854775807:=by simp only [maxLen] at h63;omega
 obtain⟨A0,hA0⟩:=H.head;have hown:=hA0.2
 have hlen2:(xs++news).length=(n+m) * i.size:=by rw [jk,hown.1,hl,Nat.add_mul]
 have grown: ∀ (old:Nat),old<n+m→
   At (w.drew.alloc (.cells (xs.toArray++news.toArray++Builtin.zeroCells z.cells (grownCap w (n+m) old E - (n+m))) E))
    (rowC E i.size (.slice (some ⟨w.heap.size,0,none⟩) (n+m) (grownCap w (n+m) old E)) (n+m) (xs++news)::rowC E i.size v n xs::l):=by
  intro old ho;have hge:=grownCap_ge w (n+m) old E;have hcm:grownCap w (n+m) old E≤maxLen:=grownCap_le_maxLen w (n+m) old E h63
  refine(H.drew).new (A':=fun k=>k=w.heap.size) ⟨fun k=>by simp [Value.ownBlock,eq_comm],hlen2,.inr ⟨w.heap.size,_,_,(0,0),rfl,heap_alloc_new w.drew _,vF _,hge,hcm,?_,?_⟩⟩ (fun k h=>by simp [h]) (vU w.drew _)
  · refine Nat.le_of_eq (Eq.symm ?_)
    simp only [Array.size_append,List.size_toArray,size_zeroCells,hzs,hown.1,hl,← Nat.add_mul]
    congr 1
    omega
  · simp only [Array.toList_append,jo]
    rw [← jo,← hlen2];exact List.take_left
 have hf0:(Builtin.firstCells i.size m x).run P w=.ok news.toArray w:=hfirst w rfl;have hf1:(Builtin.firstCells i.size m x).run P w.drew=.ok news.toArray w.drew:=hfirst w.drew rfl
 rcases hown.2 with⟨rfl,rfl⟩|⟨g,cap,cur,fz,rfl,hg,hfree,hnc,hcm,hcs,htake⟩
 · have hx:xs=[]:=List.eq_nil_of_length_eq_zero (by simpa using hown.1)
   subst hx
   by_cases hm:m=0
   · subst hm
     have hn:news=[]:=List.eq_nil_of_length_eq_zero (by simpa using hl)
     subst hn
     refine⟨.slice none 0 0,w,?_,.inl (by simpa using H.nilRow E i.size)⟩
     simp [Builtin.append_,run_underlying ht,run_underlying hu,sizeOf,typeInfo,hi,hlen,hf0]
   · have h63': ¬ (9223372036854775807<(m:Int)):=by omega
     have h48': ¬ (281474976710656<Builtin.nextslicecap m 0 * i.bytes):=by
      have:=growslice_fits (need:=m) (old:=0) (bytes:=i.bytes) (by omega) (by simpa using hbytes);omega
     have hgr:=grown 0 (by omega)
     simp only [Nat.zero_add,List.nil_append,Array.empty_append] at hgr
     refine⟨_,_,?_,.inl (by simpa using hgr)⟩
     simp [Builtin.append_,run_underlying ht,run_underlying hu,sizeOf,typeInfo,zeroValue,hi,hz,hlen,hm,h63',h48',Question.forced,run_firstCells_none,hf1,newRow,grownCap]
 · by_cases hroom:n+m≤cap
   · have hfit:n * i.size+news.length≤cur.size:=by rw [hl,← Nat.add_mul];exact Nat.le_trans (Nat.mul_le_mul_right _ hroom) hcs
     have hst:=yK P g (n * i.size) E fz news 0 cur w hg hfree (by simpa using hfit) h1
     simp only [Nat.add_zero] at hst
     have hsz:(cur.toList.take (n * i.size)++news++cur.toList.drop (n * i.size+news.length)).length=cur.size:=by
      simp only [jk,jv,jC,Array.length_toList];omega
     refine⟨.slice (some ⟨g,0,none⟩) (n+m) cap,w.setRow g (cur.toList.take (n * i.size)++news++cur.toList.drop (n * i.size+news.length)).toArray,?_,.inr ⟨H.step fun A hA=>⟨A,⟨fun k=>by rw [hA.1 k];simp [Value.ownBlock],hlen2,.inr ⟨g,cap,_,fz,rfl,setRow_heap w g cur _ E _ hg,?_,hroom,hcm,?_,?_⟩⟩,fun _ h=>.inl h,(uG w g _).mono fun k hk e=>hk.2 ((hA.1 k).2 (by simp [Value.ownBlock,e]))⟩,⟨g,0,none⟩,cap,rfl,rfl⟩⟩
     · simp [Builtin.append_,run_underlying ht,run_underlying hu,sizeOf,typeInfo,hi,hlen,hroom,hf0,Addr.add_lit,hst]
     · simpa only [List.size_toArray,hsz] using hfree
     · simpa only [List.size_toArray,hsz] using hcs
     · rw [htake,← hlen2]
       exact List.take_left
   · have hn: ¬ (n+m≤cap):=hroom
     have h63': ¬ (9223372036854775807<((n:Int)+(m:Int))):=by omega
     have h48': ¬ (281474976710656<Builtin.nextslicecap (n+m) cap * i.bytes):=by
      have:=growslice_fits (need:=n+m) (old:=cap) (bytes:=i.bytes) (by omega) hbytes;omega
     have hrd:Src P w i.size (.slice (some ⟨g,0,none⟩) n cap) n xs:=hown.rd.src;have hfo:=hrd.2.2 w.drew rfl
     refine⟨_,_,?_,.inl (grown cap (by omega))⟩
     simp [Builtin.append_,run_underlying ht,run_underlying hu,sizeOf,typeInfo,zeroValue,hi,hz,hlen,hn,h63',h48',Question.forced,hf1,hfo,newRow,grownCap]
     congr 2
     apply Array.ext'
     simp [jo]
theorem znf (n:Int) (h: -9223372036854775808≤n∧n≤9223372036854775807):IntKind.i64.wrap n=n:=by
 unfold IntKind.wrap
 simp only [show IntKind.i64.signed=true by decide,show IntKind.i64.bits=64 by decide]
 split<;>simp_all<;>omega
theorem wrap_i64 (n:Nat) (h:n≤9223372036854775807):IntKind.i64.wrap (n:Int)=n:=znf n ⟨by omega,by omega⟩
theorem zh1 {P:Program} {w:World} {l:List Chunk} (t u ty E:TypeId) (i:TypeInfo) (z:Value) (ht:P.underlying t=some (.slice E)) {k:IntKind} (hu:P.underlying u=some (.int k))
  (hi:P.info? E=some i) (hz:i.zero=some z) (hzs:z.cells.size=i.size) (H:At w l) (n:Nat) (kk:IntKind) (h63:n≤maxLen) (hbytes:n * i.bytes≤140737488355328):
  ∃ v' w',(Builtin.append_ #[t,u] ty #[.slice none 0 0,.int kk n]).run P w=.ok v' w'∧At w' (rowC E i.size v' n (Builtin.zeroCells z.cells n).toList::l):=by
 have hsmall:n≤9223372036854775807:=by simp only [maxLen] at h63;omega
 have hw:=wrap_i64 n hsmall
 have hl1: ¬ ((n:Int)<0):=by omega
 have hb2:(n:Int) * (i.bytes:Int)≤140737488355328:=by rw [← Int.natCast_mul];omega
 have hl2: ¬ (281474976710656<(n:Int) * (i.bytes:Int)):=by omega
 by_cases hm:n=0
 · subst hm
   have hw0:IntKind.i64.wrap 0=0:=hw
   refine⟨.slice none 0 0,w,?_,by simpa [Builtin.zeroCells] using H.nilRow E i.size⟩
   simp [Builtin.append_,run_underlying ht,run_underlying hu,sizeOf,typeInfo,hi,asInt,asIntOf,hw0]
 · have h63': ¬ (9223372036854775807<(n:Int)):=by omega
   have h48': ¬ (281474976710656<Builtin.nextslicecap n 0 * i.bytes):=by
    have:=growslice_fits (need:=n) (old:=0) (bytes:=i.bytes) (by omega) (by simpa using hbytes);omega
   have hge:=grownCap_ge w n 0 E;have hcm:grownCap w n 0 E≤maxLen:=grownCap_le_maxLen w n 0 E h63
   have hgr:At (w.drew.alloc (.cells (Builtin.zeroCells z.cells n++Builtin.zeroCells z.cells (grownCap w n 0 E - n)) E))
     (rowC E i.size (.slice (some ⟨w.heap.size,0,none⟩) n (grownCap w n 0 E)) n (Builtin.zeroCells z.cells n).toList::l):=by
    refine(H.drew).new (A':=fun k=>k=w.heap.size) ⟨fun k=>by simp [Value.ownBlock,eq_comm],by rw [Array.length_toList,size_zeroCells,hzs],.inr ⟨w.heap.size,_,_,(0,0),rfl,heap_alloc_new w.drew _,vF _,hge,hcm,?_,?_⟩⟩ (fun k h=>by simp [h]) (vU w.drew _)
    · refine Nat.le_of_eq (Eq.symm ?_)
      simp only [Array.size_append,size_zeroCells,hzs,← Nat.add_mul]
      congr 1
      omega
    · simp only [Array.toList_append]
      rw [show n * i.size=(Builtin.zeroCells z.cells n).toList.length by rw [Array.length_toList,size_zeroCells,hzs]]
      exact List.take_left
   refine⟨_,_,?_,hgr⟩
   have hnz:n * i.size=0→Builtin.zeroCells z.cells n= #[]:=fun h=>by
    apply Array.eq_empty_of_size_eq_zero;rw [size_zeroCells,hzs];exact h
   by_cases h0:n * i.size=0
   · simp [Builtin.append_,run_underlying ht,run_underlying hu,sizeOf,typeInfo,zeroValue,hi,hz,asInt,asIntOf,hw,hl1,hl2,hm,h63',h48',Question.forced,run_firstCells_none,newRow,grownCap,h0,hnz h0]
   · simp [Builtin.append_,run_underlying ht,run_underlying hu,sizeOf,typeInfo,zeroValue,hi,hz,asInt,asIntOf,hw,hl1,hl2,hm,h63',h48',Question.forced,run_firstCells_none,newRow,grownCap,h0]
end Go.Sep
namespace Go.Sep
open Go
theorem Rd.spot {w:World} {size:Nat} {ao:Option Addr} {n cap:Nat} {cs:List Value} (h:Rd w size (.slice ao n cap) n cs) {j:Nat} (hj:j<cs.length): ∃ a,ao=some a∧a.spot=none:=by
 obtain⟨ao',cap',e,_,_,_,_,hc⟩:=h;cases e;exact(hc j _ (jm hj)).1
theorem Rd.cell {w:World} {size:Nat} {ao:Option Addr} {n cap:Nat} {cs:List Value} (h:Rd w size (.slice ao n cap) n cs) {j:Nat} (hj:j<cs.length):w.cell? (adr ao j)=some cs[j]:=by
 obtain⟨ao',cap',e,_,_,_,_,hc⟩:=h;cases e;exact(hc j _ (jm hj)).2
theorem Rd.len {w:World} {size:Nat} {v:Value} {n:Nat} {cs:List Value} (h:Rd w size v n cs):cs.length=n * size:=by
 obtain⟨_,_,_,_,_,_,hl,_⟩:=h;exact hl
theorem Rd.le {w:World} {size:Nat} {v:Value} {n:Nat} {cs:List Value} (h:Rd w size v n cs):n≤9223372036854775807:=by
 obtain⟨_,_,_,h1,h2,_,_,_⟩:=h;unfold maxLen at h2;omega
theorem run_indexAt {P:Program} {w:World} {T E size:Nat} (ht:P.underlying T=some (.slice E)) (hs:(P.info? E).map (·.size)=some size) (ao:Option Addr) (n cap:Nat) (k:IntKind) (i:Int)
  (h0:0≤i) (h1:i<n) (hsp: ∃ a,ao=some a∧a.spot=none):(Instr.indexAt T (.slice ao n cap) (.int k i)).run P w=.ok (.pointer (some (adr ao (i.toNat * size)))) w:=by
 obtain⟨a,rfl,ha⟩:=hsp
 obtain⟨inf,hi,hz⟩: ∃ inf,P.info? E=some inf∧inf.size=size:=by
  cases h:P.info? E with
  |none=>simp [h] at hs
  |some inf=>exact⟨inf,rfl,by simpa [h] using hs⟩
 simp [Instr.indexAt,asIntOf,run_underlying ht,h0,h1,sizeOf,typeInfo,hi,hz,YB ha]
theorem hid {p:Prop} (h:p):RowKit.Hid p:=h
def sub (v:Value) (size l h:Nat):Value:=
 match v with
 |.slice ao _ cap=>.slice (if cap=l then ao else ao.map (·.add (l * size))) (h - l) (cap - l)
 |v=>v
theorem Rd.sub {w:World} {size:Nat} {v:Value} {n:Nat} {cs:List Value} (H:Rd w size v n cs) {l h:Nat} (hlh:l≤h) (hn:h≤n):
  Rd w size (sub v size l h) (h - l) ((cs.drop (l * size)).take ((h - l) * size)):=by
 obtain⟨ao,cap,rfl,hnc,hcm,hno,hl,hc⟩:=H;have hle:h * size≤n * size:=Nat.mul_le_mul_right _ hn;have hle2:(h - l) * size=h * size - l * size:=Nat.sub_mul _ _ _;have hle3:l * size≤h * size:=Nat.mul_le_mul_right _ hlh
 refine⟨_,_,rfl,by omega,by omega,fun e=> ?_,by rw [jv,jC];omega,fun j u hj=> ?_⟩
 · cases ao with
   |none=>have:=hno rfl;omega
   |some a=>split at e<;>simp at e
 rw [jD] at hj
 split at hj
 · rename_i hlt
   rw [jG] at hj;obtain⟨⟨a,rfl,ha⟩,hcell⟩:=hc _ _ hj
   have hsz:0<size:=by
    rcases Nat.eq_zero_or_pos size with h0|h0
    · subst h0;simp at hlt
    · exact h0
   have hne:cap≠l:=by
    intro e
    have:0<h - l:=by
     rcases Nat.eq_zero_or_pos (h - l) with h0|h0
     · rw [h0] at hlt;simp at hlt
     · exact h0
    omega
   rw [if_neg hne];refine⟨⟨_,rfl,?_⟩,?_⟩
   · show(a.add (l * size)).spot=none;rw [YB ha];rfl
   · rw [show adr (Option.map (fun x=>x.add (l * size)) (some a)) j=adr (some a) (l * size+j) from by simp [YB ha,adr,blk,ofs,Nat.add_assoc]]
     exact hcell
 · cases hj
theorem zhZ {P:Program} {w:World} {T E size:Nat} (ht:P.underlying T=some (.slice E)) (hs:(P.info? E).map (·.size)=some size) (ao:Option Addr) (n cap l h:Nat) (hnc:n≤cap)
  {lo hi:Option Value} (hlo:(lo=none∧l=0)∨∃ k,lo=some (.int k l)) (hhi:(hi=none∧h=n)∨∃ k,hi=some (.int k h)) (hlh:l≤h) (hn:h≤n):
  (Instr.sliceAt T (.slice ao n cap) lo hi none).run P w=.ok (sub (.slice ao n cap) size l h) w:=by
 obtain⟨inf,hi,hz⟩: ∃ inf,P.info? E=some inf∧inf.size=size:=by
  cases h:P.info? E with
  |none=>simp [h] at hs
  |some inf=>exact⟨inf,rfl,by simpa [h] using hs⟩
 have hhc:h≤cap:=by omega
 rcases hlo with⟨rfl,rfl⟩|⟨k,rfl⟩<;>rcases hhi with⟨rfl,rfl⟩|⟨k',rfl⟩<;>
  simp [Instr.sliceAt,Instr.slice,Instr.sliceBounds,Instr.sliceBound,asIntOf,run_underlying ht,sizeOf,typeInfo,hi,hz,sub,hlh,hhc]
def S (l:List UInt8):ByteArray:=⟨l.toArray⟩
@[simp] theorem zuU (l:List UInt8):(S l).size=l.length:=by simp [S,ByteArray.size]
@[simp] theorem ze5 (l:List UInt8):(S l).data.toList=l:=by simp [S]
@[simp,go_sem] theorem S_toList' (l:List UInt8):(S l).toList=l:=by rw [ByteArray.toList_eq,ze5]
theorem S_of (s:ByteArray):S s.data.toList=s:=by cases s;simp [S]
theorem foldl_push (l:List UInt8) (s:ByteArray):((l.map fun c=>(c.toNat:Int)).foldl (fun r n=>r.push (UInt8.ofNat n.toNat)) s).data.toList=s.data.toList++l:=by
 induction l generalizing s with
 |nil=>simp
 |cons c l ih=>simp only [List.map_cons,List.foldl_cons];rw [ih];simp [ByteArray.push]
theorem zdH {P:Program} {w:World} {src dst E:Nat} (hs:P.underlying src=some (.slice E)) (he:P.underlying E=some (.int .u8)) (hd:P.underlying dst=some .string)
  {v:Value} {n:Nat} {bs:List UInt8} (h:Rd w 1 v n (bvs bs)):(convert src dst v).run P w=.ok (.string (S bs)) w:=by
 have hsrc:=h.src (P:=P);obtain⟨ao,cap,rfl,_,_,_,hl,hc⟩:=h;rw [run_convert_bytes_string w src dst E ao n cap hs he hd]
 cases ao with
 | none=>
   have:bs=[]:=by
    cases bs with
    |nil=>rfl
    |cons u r=>obtain⟨⟨a,h,_⟩,_⟩:=hc 0 _ rfl;cases h
   subst this;rfl
 | some a=>
   have hn:n=bs.length:=by simpa using hl.symm
   have e:bvs bs=(bs.map fun c=>(c.toNat:Int)).map (Value.int .u8):=by simp [bvs,bv]
   have h2:=hsrc.2.2 w rfl;simp only [Builtin.firstCells,Nat.mul_one] at h2;rw [e] at h2;rw [run_bytesToString w a n cap _ h2]
   congr 2
   have:=foldl_push bs ByteArray.empty;rw [← S_of (List.foldl _ _ _),this];rfl
end Go.Sep
namespace Go.Sep
open Go
theorem block_lt {w:World} {a:Addr} {u:Value} (h:w.cell? a=some u):a.block<w.heap.size:=World.block_lt_of_cell? w a h
theorem Rd.later {W w:World} {l:List Chunk} {size:Nat} {v:Value} {n:Nat} {cs:List Value} (h:Rd W size v n cs) (H:At w (initC W::l)):Rd w size v n cs:=by
 obtain⟨ao,cap,e,h1,h2,h4,h3,hc⟩:=h;refine⟨ao,cap,e,h1,h2,h4,h3,fun j u hu=> ?_⟩;obtain⟨hs,hcell⟩:=hc j u hu;exact⟨hs,(H.below.cell (block_lt hcell)).trans hcell⟩
end Go.Sep
namespace Go.Sep
open Go
abbrev Rel (α:Type):=World→List Value→α→Prop
def zyA:Rel UInt8:=fun _ cs c=>cs=[bv c]
def RSl {α:Type} (size:Nat) (R:Rel α):Rel (List α):=fun w cs xs=>
 ∃ v vs,cs=[v]∧Rd w size v xs.length vs∧∀ (i:Nat) x,xs[i]? =some x→R w ((vs.drop (i * size)).take size) x
section
variable {H:Type} {enc:TypeId × Value→H} {P:Program} {w:World} {base:Nat} {spare:Nat→Bool} {held:Bool}
theorem cells?_get {a:Addr} {n:Nat} {cs:List Value} (h:w.cells? base a n=some cs):cs.length=n∧∀ j u,cs[j]? =some u→w.cell? (a.add j)=some u:=by
 unfold World.cells? at h
 split at h
 · refine⟨by simpa using mapM_some_length h,fun j u hj=> ?_⟩
   have hl:j<n:=by
    have:=(jl.1 hj).1;have:=mapM_some_length h
    simp at this;omega
   rw [← hj]
   exact mapM_some_get h j j (by simp [hl])
 · cases h
theorem zvd {a:Addr} {u:Value} (h:w.cell? a=some u):a.spot=none:=by
 cases hs:a.spot with
 |none=>rfl
 | some s=>
   unfold World.cell? at h;rw [hs] at h
   split at h<;>simp at h
end
theorem RSl.bytes {w:World} {v:Value} {bs:List UInt8} (h:RSl 1 zyA w [v] bs):Rd w 1 v bs.length (bvs bs):=by
 obtain⟨v',vs,e,hr,hx⟩:=h;cases e;have hl:=hr.len
 have:vs=bvs bs:=by
  apply List.ext_getElem?;intro i;rw [bvs_getElem?]
  rcases Nat.lt_or_ge i bs.length with hi|hi
  · have h1:=hx i bs[i] (jm hi)
    unfold zyA at h1
    have h2:((vs.drop (i * 1)).take 1)[0]? =some (bv bs[i]):=by rw [h1];rfl
    rw [jD,jG] at h2
    simp at h2
    rw [jm hi]
    simpa using h2
  · rw [List.getElem?_eq_none (by omega),List.getElem?_eq_none (by omega)];rfl
 rw [← this];exact hr
theorem RSl.len {α:Type} {size:Nat} {R:Rel α} {w:World} {ao:Option Addr} {n cap:Nat} {xs:List α} (h:RSl size R w [.slice ao n cap] xs):n=xs.length∧n≤cap∧n≤9223372036854775807:=by
 obtain⟨v',vs,e,hr,hx⟩:=h;cases e;have:=hr.le;obtain⟨ao',cap',e,hc,_⟩:=hr;cases e;exact⟨rfl,hc,this⟩
end Go.Sep
namespace Go.Sep
open Go
attribute [go_sem] zuU
@[go_sem] theorem ztW (a b:List UInt8):S a++S b=S (a++b):=by
  cases h:S a++S b with
  | mk d=>
    have:d.toList=a++b:=by
     have h2:=congrArg (fun s=>s.data.toList) h
     simp at h2
     exact h2.symm
    unfold S;rw [← this]
theorem zfx {P:Program} {w:World} {T:TypeId} (ht:P.underlying T=some .string) (l:List UInt8) (k:IntKind) (j:Nat) (c:UInt8) (hc:l[j]? =some c):
  (Instr.index T (.string (S l)) (.int k j)).run P w=.ok (bv c) w:=by
 have hj:j<l.length:=(jl.1 hc).1
 have hs:(S l)[j]? =some c:=by
  have:j<(S l).size:=by simpa using hj
  rw [getElem?_pos (S l) j this]
  simp [S,ByteArray.getElem_eq_getElem_data] at hc ⊢
  exact(jl.1 hc).2
 simp [Instr.index,asIntOf,run_underlying ht,hs,bv]
theorem zrD (l:List UInt8) (a b:Nat):(S l).extract a b=S ((l.drop a).take (b - a)):=by
 rw [← S_of ((S l).extract a b)]
 congr 1
 simp [S,List.extract_eq_take_drop]
end Go.Sep
namespace Go.Sep
open Go
section
variable {P:Program} {ops:Array Oper} {Q:Act→Prop} {a:Act} {w:World} {rest:List Oper}
theorem zuX {o:Oper} (hw:Region.wanted o (yielded ops a.tmps)=true) {v:Value}
  (hr:(execOp a.eval o).run P w=.ok (.value v) w) (h:wpStill P ops w Q rest (a.put o.dst v)):wpStill P ops w Q (o::rest) a:=by
 unfold wpStill;rw [if_pos hw];unfold Oper.still;rw [hr];exact⟨rfl,h⟩
end
end Go.Sep
namespace Go.Sep
open Go
theorem At.p1 {a b:Chunk} {l:List Chunk} {w:World} (h:At w (a::b::l)):At w (b::a::l):=h.swap
theorem At.p2 {a b c:Chunk} {l:List Chunk} {w:World} (h:At w (a::b::c::l)):At w (c::a::b::l):=h.rot2
theorem At.p3 {a b c d:Chunk} {l:List Chunk} {w:World} (h:At w (a::b::c::d::l)):At w (d::a::b::c::l):=h.rot3
theorem At.p5 {a b c d e f:Chunk} {l:List Chunk} {w:World} (h:At w (a::b::c::d::e::f::l)):At w (f::a::b::c::d::e::l):=h.pull 5 f rfl
theorem At.one {c:Chunk} {l:List Chunk} {w:World} (h:At w (c::l)):At w [c]:=by
 obtain⟨F,A,B,_,_,hc,_⟩:=h
 exact⟨A,A,fun _=>False,fun k=>by simp,fun _ _ h=>h,hc,fun _ h=>h⟩
theorem At.drop1 {a b:Chunk} {l:List Chunk} {w:World} (h:At w (a::b::l)):At w (a::l):=h.swap.tail
def Sub (l m:List Chunk):Prop:=∀ w F,sep l w F→∃ G,(∀ k,G k→F k)∧sep m w G
theorem Sub.refl (l:List Chunk):Sub l l:=fun _ F h=>⟨F,fun _ h=>h,h⟩
theorem Sub.nil (l:List Chunk):Sub l []:=fun _ _ _=>⟨fun _=>False,fun _ h=>h.elim,fun _ h=>h⟩
theorem Sub.drop {c:Chunk} {l m:List Chunk} (h:Sub l m):Sub (c::l) m:=fun w F hs=>by
 obtain⟨A,B,e,_,_,hl⟩:=hs;obtain⟨G,hG,hm⟩:=h w B hl;exact⟨G,fun k hk=>(e k).2 (.inr (hG k hk)),hm⟩
theorem Sub.c0 {c:Chunk} {l m:List Chunk} (h:Sub l m):Sub (c::l) (c::m):=fun w F hs=>by
 obtain⟨A,B,e,d,hc,hl⟩:=hs;obtain⟨G,hG,hm⟩:=h w B hl;exact⟨fun k=>A k∨G k,fun k hk=>(e k).2 (hk.imp id (hG k)),A,G,fun _=>Iff.rfl,fun k hA hk=>d k hA (hG k hk),hc,hm⟩
theorem Sub.zid {l m n:List Chunk} (p:l.Perm m) (h:Sub m n):Sub l n:=fun w F hs=>h w F (zjP p hs)
theorem Sub.c1 {c a:Chunk} {l m:List Chunk} (h:Sub (a::l) m):Sub (a::c::l) (c::m):=.zid (Yc _ 1 c rfl) h.c0
theorem Sub.c2 {c a b:Chunk} {l m:List Chunk} (h:Sub (a::b::l) m):Sub (a::b::c::l) (c::m):=.zid (Yc _ 2 c rfl) h.c0
theorem Sub.c3 {c a b d:Chunk} {l m:List Chunk} (h:Sub (a::b::d::l) m):Sub (a::b::d::c::l) (c::m):=.zid (Yc _ 3 c rfl) h.c0
theorem At.sub {l m:List Chunk} {w:World} (h:Sub l m) (H:At w l):At w m:=by
 obtain⟨F,hF⟩:=H;obtain⟨G,_,hm⟩:=h w F hF;exact⟨G,hm⟩
section
variable {P:Program} {w:World} {ops:Array Oper} {rest:List Oper} {a:Act} {Q:Exit→Act→World→Prop} {dst:Option Tmp} {ty:TypeId} {pos:String} {af:Array Edge} {gd:Option (Nat × Bool)}
theorem TF {P:Program} {w:World} {T:TypeId} {d:TypeDesc} (hT:P.underlying T=some d) (hd:d.isRow=false):(isAgg T).run P w=.ok false w:=by
 unfold isAgg
 cases d<;>simp_all [run_underlying hT]
theorem zoi {P:Program} {w:World} {T:TypeId} {d:TypeDesc} (hT:P.underlying T=some d) (hd:d.isRow=false) {p:Addr} {v:Value} (hc:w.cell? p=some v):
  (Instr.loadAt T (.pointer (some p))).run P w=.ok v w:=by
 simp only [Instr.loadAt,Instr.sureAddr,loadVar,Sem.run_bind,Sem.run_pure,Result.andThen_ok,TF hT hd,jd,if_false,run_load,hc]
theorem At.range {b:Nat} {T:TypeId} {cs:List Value} {l:List Chunk} {w:World} (H:At w (objC b T cs::l)) (i:Nat) (ds:List Value) (h: ∀ j v,ds[j]? =some v→cs[i+j]? =some v):w.rangeAt b i ds:=
 fun j v hj=>(H.cell (i+j)).trans (h j v hj)
theorem At.mark {E size:Nat} {n cap:Nat} {ao:Option Addr} {xs:List Value} {l:List Chunk} {w:World} (h0:0<n) (H:At w (rowC E size (.slice ao n cap) n xs::l)):
  ∃ g cur,ao=some ⟨g,0,none⟩∧(∃ fz,w.heap[g]? =some (.cells cur E fz))∧At (w.freeze ⟨g,cur.size,none⟩ 1) (rowC E size (.slice ao n cap) n xs::l):=by
 obtain⟨A,hA⟩:=H.head
 obtain⟨hF,hl,⟨he,rfl⟩|⟨g,cap',cur,fz,he,hg,hfree,hnc,hcm,hcs,ht⟩⟩:=hA
 · omega
 cases he;refine⟨g,cur,rfl,⟨fz,hg⟩,?_⟩
 have hsz:(w.freeze ⟨g,cur.size,none⟩ 1).heap.size=w.heap.size:=by simp [World.freeze]
 have hnew:(w.freeze ⟨g,cur.size,none⟩ 1).heap[g]? =some (.cells cur E (if fz.1 == fz.2 then(cur.size,cur.size+1) else(min fz.1 cur.size,max fz.2 (cur.size+1)))):=by
  simp [World.freeze,Array.getElem?_modify,hg]
 have hold: ∀ k,k≠g→(w.freeze ⟨g,cur.size,none⟩ 1).heap[k]? =w.heap[k]? :=by
  intro k hk
  simp [World.freeze,Array.getElem?_modify,Ne.symm hk]
 refine H.step fun A hA=>⟨A,⟨hA.1,hl,.inr ⟨g,cap,cur,_,rfl,hnew,?_,hnc,hcm,hcs,ht⟩⟩,fun _ h=>.inl h,?_⟩
 · unfold Free at hfree ⊢
   split
   · exact .inr (jL _)
   · rename_i hne
     right
     have:fz.1≠fz.2:=by simpa using hne
     have:=hfree.resolve_left this;simp only [Nat.min_eq_right this];exact jL _
 · refine⟨rfl,rfl,rfl,by rw [hsz];exact jL _,fun k hk=>hold k fun e=>hk.2 ((hA.1 k).2 (by simp [Value.ownBlock,e]))⟩
theorem Sz (P:Program) (w:World) (t e g n cap:Nat) (cur:Array Value) (E:Nat) (fz:Nat × Nat) (ht:P.underlying t=some (.slice e)) (he:P.underlying e=some (.int .u8)) (hg:w.heap[g]? =some (.cells cur E fz)):
  (convert t t (.slice (some ⟨g,0,none⟩) n cap)).run P w=.ok (.slice (some ⟨g,0,none⟩) n cap) (w.freeze ⟨g,cur.size,none⟩ 1):=by
 have hsh:w.shape? g=some (E,cur.size):=by unfold World.shape?;rw [hg]
 simp [convert,run_underlying ht,run_underlying he,markStringish,hsh]
theorem zd9 (z:Value) (n:Nat):(madeCells #[z] n).toList=List.replicate n z:=by
 simp only [madeCells,Array.toList_map,Array.toList_range,List.size_toArray,jh,ji,Nat.zero_add,Nat.mod_one]
 simp [List.map_const']
theorem Rd.at_ {ao:Option Addr} {n cap j:Nat} {bs:List UInt8} {c:UInt8} (h:Rd w 1 (.slice ao n cap) n (bvs bs)) (hc:bs[j]? =some c):w.cell? (adr ao j)=some (.int .u8 (c.toNat:Int)):=by
 have hj:=(jl.1 hc).1
 have:=h.cell (j:=j) (by simpa using hj)
 rw [this]
 congr 1
 have h2:(bvs bs)[j]? =some (bv c):=by rw [bvs_getElem?,hc];rfl
 rw [jm (by simpa using hj)] at h2
 exact Option.some.inj h2
theorem Rd.lt {ao:Option Addr} {n cap j:Nat} {bs:List UInt8} {c:UInt8} (h:Rd w 1 (.slice ao n cap) n (bvs bs)) (hc:bs[j]? =some c):j<n:=by
 have h1:=(jl.1 hc).1;have h2:=h.len
 simp at h2
 omega
end
end Go.Sep
namespace Go.Sep
open Go
section
variable {P:Program} {ops:Array Oper} {Q:Exit→Act→World→Prop} {S:World→Prop}
end
def zbM (ops:List Oper) (j:Nat):List Nat:=
 match ops[j]? with
 |none=>[]
 |some o=>o.after.toList.filterMap fun e=>match Region.binds .any e with|true=>some e.on|false=>none
def xJ (i:Nat):List Nat→Bool
 |[]=>false
 |j::r=>match Nat.beq j i with|true=>true|false=>xJ i r
theorem qW {i:Nat}: ∀ {l:List Nat},xJ i l=true→i ∈ l
 |[],h=>by cases h
 | j ::r,h=>by
   unfold xJ at h
   split at h
   · rename_i hb
     rw [jI hb];exact List.mem_cons_self ..
   · exact List.mem_cons_of_mem _ (qW h)
def XF (ops:List Oper):Nat→List Nat→List Nat→List Nat
 |0,_,acc=>acc
 |_+1,[],acc=>acc
 |f+1,j::r,acc=>match xJ j acc with|true=>XF ops f r acc|false=>XF ops f (zbM ops j++r) (j::acc)
def zvv (ops:List Oper) (b:Nat):List Nat:=XF ops 4000 (zbM ops b) []
def Clo (ops:List Oper) (listed:Array Bool):Prop:=listed.size=ops.length∧∀ j,listed.getD j false=true→∀ i ∈ zbM ops j,listed.getD i false=true
theorem ztR (ops:List Oper):Clo ops (Array.replicate ops.length false):=by
 refine⟨by simp,fun j h=> ?_⟩
 simp [Array.getD] at h
theorem zaG {ops:List Oper} {listed:Array Bool} {i:Nat} (hr:i ∈ Region.ready .any ops.toArray listed): ∀ j ∈ zbM ops i,listed.getD j false=true:=by
 intro j hj;obtain⟨_,o,ho,hall⟩:=mem_ready.1 hr;unfold zbM at hj
 rw [show ops[i]? =some o by simpa using ho] at hj
 simp only [List.mem_filterMap,Array.mem_toList_iff] at hj;obtain⟨e,he,hb⟩:=hj
 split at hb
 · rename_i hbi;cases hb;exact hall e he hbi
 · cases hb
theorem zbr {ops:List Oper} {listed:Array Bool} {i:Nat} (h:Clo ops listed) (hr:i ∈ Region.ready .any ops.toArray listed):Clo ops (listed.setIfInBounds i true):=by
 refine⟨by simp [h.1],fun j hj k hk=>getD_set_true ?_⟩
 by_cases hij:i=j
 · subst hij;exact zaG hr k hk
 · exact h.2 j (by rwa [getD_set_ne false hij] at hj) k hk
theorem qE {ops:List Oper} {listed:Array Bool} (h:Clo ops listed): ∀ (f:Nat) (todo acc:List Nat),(∀ j ∈ todo,listed.getD j false=true)→(∀ j ∈ acc,listed.getD j false=true)→∀ i ∈ XF ops f todo acc,listed.getD i false=true
 |0,_,_,_,h2,i,hi=>h2 i hi
 |_+1,[],_,_,h2,i,hi=>h2 i hi
 | f + 1,j::r,acc,h1,h2,i,hi=>by
   unfold XF at hi
   split at hi
   · exact qE h f r acc (fun k hk=>h1 k (List.mem_cons_of_mem _ hk)) h2 i hi
   · refine qE h f (zbM ops j++r) (j::acc) (fun k hk=> ?_) (fun k hk=> ?_) i hi
     · rcases List.mem_append.1 hk with hk|hk
       · exact h.2 j (h1 j (List.mem_cons_self ..)) k hk
       · exact h1 k (List.mem_cons_of_mem _ hk)
     · rcases List.mem_cons.1 hk with rfl|hk
       · exact h1 _ (List.mem_cons_self ..)
       · exact h2 k hk
def Before (ops:List Oper) (b i:Nat):Prop:=b≠i∧∀ listed,Clo ops listed→(b ∈ Region.ready .any ops.toArray listed∨listed.getD b false=true)→listed.getD i false=true
theorem zm6 {ops:List Oper} {b i:Nat} (hb:ops.length≤b) (hi:i<ops.length):Before ops b i:=by
 refine⟨by omega,fun listed hc h=> ?_⟩
 rcases h with h|h
 · obtain⟨_,o,ho,_⟩:=mem_ready.1 h
   have:=(Array.getElem?_eq_some_iff.1 ho).1
   simp at this;omega
 · have h1:=hc.1
   rw [Array.getD_eq_getD_getElem?,Array.getElem?_eq_none (by omega)] at h
   cases h
theorem zht {ops:List Oper} {b i:Nat} (hne:b≠i) (h:i ∈ zvv ops b):Before ops b i:=
 ⟨hne,fun listed hc hb=>qE hc _ _ _ (by rcases hb with hb|hb;exact zaG hb;exact hc.2 b hb) (fun _ h=>by cases h) i h⟩
section
variable {P:Program} {ops:List Oper} {Q:Exit→Act→World→Prop} {S:World→Prop}
def Q8 (P:Program) (ops:List Oper) (Q:Exit→Act→World→Prop) (S:World→Prop) (b:Nat):Nat→Array Bool→Act→World→Prop
 |0,listed,a,w=>wpAny P .any ops.toArray Q 0 listed a w
 | fuel+1,listed,a,w=>
   (listed.getD b false=true→wpAny P .any ops.toArray Q (fuel+1) listed a w)∧
   (listed.getD b false=false→(Region.ready .any ops.toArray listed=[]→Q .normal a w)∧
    ∀ i ∈ Region.ready .any ops.toArray listed,wpOp P ops.toArray Q i (fun a' w'=>S w'∧Q8 P ops Q S b fuel (listed.setIfInBounds i true) a' w') a w)
theorem zbO {b:Nat}: ∀ (fuel:Nat) (listed:Array Bool) (a:Act) (w:World),Q8 P ops Q S b fuel listed a w→wpAny P .any ops.toArray Q fuel listed a w
 |0,_,_,_,h=>h
 | fuel+1,listed,_,_,h=>by
   cases hb:listed.getD b false with
   |true=>exact h.1 hb
   |false=>exact⟨(h.2 hb).1,fun i hi=>wpOp_mono (fun a' w' h'=>zbO fuel _ a' w' h'.2) ((h.2 hb).2 i hi)⟩
theorem zm7 {b i:Nat} {oi:Oper} {v:Value} (hi:ops.toArray[i]? =some oi) (hsel: ∀ (j:Nat) (o:Oper) cs b,ops.toArray[j]? =some o→o.op≠ .select cs b)
  (hQ: ∀ c a w,Q (.panic c) (a.put oi.dst v) w→Q (.panic c) a w) (hb:Before ops b i):
  ∀ (fuel:Nat) (listed:Array Bool) (a:Act) (w:World),Clo ops listed→
    (∀ j oj,ops.toArray[j]? =some oj→j≠i→listed.getD j true=false→(∀ e ∈ oj.after,Region.binds .any e=true→e.on≠i)→oi.apart ops.toArray oj=true)→
    i ∈ Region.ready .any ops.toArray listed→YieldsIf P ops.toArray S oi v a→S w→
    Q8 P ops Q S b fuel (listed.setIfInBounds i true) (a.put oi.dst v) w→Q8 P ops Q S b (fuel+1) listed a w:=by
 have hun: ∀ {listed:Array Bool},i ∈ Region.ready .any ops.toArray listed→Clo ops listed→listed.getD i false=false:=fun {listed} hr hc=>by
  have h0:=(mem_ready.1 hr).1;rw [Array.getD_eq_getD_getElem?] at h0 ⊢
  cases h:listed[i]? with
  |none=>rfl
  |some x=>rw [h] at h0;simpa using h0
 intro fuel
 induction fuel with
 | zero=>
   intro listed a w hc _ hr hy hS H
   refine⟨fun h=> ?_,fun _=>⟨fun h=>(by rw [h] at hr;cases hr),fun j hj=> ?_⟩⟩
   · have:=hb.2 listed hc (.inr h);rw [hun hr hc] at this;cases this
   by_cases hji:j=i
   · subst hji;exact hy.wpOp hi hS ⟨hS,H⟩
   · have:=ready_mono hj hji
     rw [H.1] at this;cases this
 | succ fuel ih=>
   intro listed a w hc hfree hr hy hS H
   refine⟨fun h=> ?_,fun hbl=>⟨fun h=>(by rw [h] at hr;cases hr),fun j hj=> ?_⟩⟩
   · have:=hb.2 listed hc (.inr h);rw [hun hr hc] at this;cases this
   by_cases hji:j=i
   · subst hji;exact hy.wpOp hi hS ⟨hS,H⟩
   · have hbl':(listed.setIfInBounds i true).getD b false=false:=by rw [getD_set_ne false (Ne.symm hb.1)];exact hbl
     have h1:=(H.2 hbl').2 j (ready_mono hj hji);obtain⟨hjun,oj,hoj,hall⟩:=mem_ready.1 hj
     have hnot: ∀ e ∈ oj.after,Region.binds .any e=true→e.on≠i:=fun e he hb heq=>by
      have h1:=hall e he hb;rw [heq,hun hr hc] at h1;cases h1
     have h2:=wpOp_putIf hoj (hfree j oj hoj hji hjun hnot) (fun cs b=>hsel i oi cs b hi) (fun cs b=>hsel j oj cs b hoj) hQ hy h1
     have hfree': ∀ k ok,ops.toArray[k]? =some ok→k≠i→(listed.setIfInBounds j true).getD k true=false→
       (∀ e ∈ ok.after,Region.binds .any e=true→e.on≠i)→oi.apart ops.toArray ok=true:=fun k ok hk hki hun hno=>by
      refine hfree k ok hk hki ?_ hno
      by_cases hjk:j=k
      · subst hjk;exact hjun
      · rw [getD_set_ne true hjk] at hun;exact hun
     refine wpOp_mono (fun a' w' h3=>⟨h3.2.1,ih (listed.setIfInBounds j true) a' w' (zbr hc hj) hfree' (ready_mono hr (Ne.symm hji)) h3.1 h3.2.1 ?_⟩) h2;rw [Array.setIfInBounds_comm _ _ hji];exact h3.2.2
theorem zhA {b i:Nat} {oi:Oper} {v:Value} {fuel:Nat} {listed:Array Bool} {a:Act} {w:World} (hi:ops.toArray[i]? =some oi) (hb:Before ops b i) (hc:Clo ops listed)
  (hs:Region.noSelect ops.toArray=true) (hf:Region.free .any ops.toArray listed i=true) (hr:i ∈ Region.ready .any ops.toArray listed)
  (hQ: ∀ c a w,Q (.panic c) (a.put oi.dst v) w→Q (.panic c) a w) (hy:YieldsIf P ops.toArray S oi v a) (hS:S w)
  (h:Q8 P ops Q S b fuel (listed.setIfInBounds i true) (a.put oi.dst v) w):Q8 P ops Q S b (fuel+1) listed a w:=
 zm7 hi (Region.noSelect_spec hs) hQ hb fuel listed a w hc (Region.free_spec hi hf) hr hy hS h
end
end Go.Sep
namespace Go.Sep
open Go
section
variable {P:Program} {w:World} {ops:Array Oper} {a:Act} {dst:Option Tmp} {ty:TypeId} {pos:String} {af:Array Edge} {gd:Option (Nat × Bool)}
theorem zwt {T:TypeId} {x:Operand} {d:TypeDesc} (hT:P.underlying T=some d) (hd:d.isRow=false) {p:Addr} {v:Value} (hx:a.eval x=.pointer (some p)) (hc:w.cell? p=some v):
  (execOp a.eval ⟨dst,.load T x,ty,pos,af,gd⟩).run P w=.ok (.value v) w:=by
 simp only [execOp,hx,Sem.run_bind,zoi hT hd hc,Result.andThen_ok,Sem.run_pure]
theorem ztz {T:TypeId} {x:Operand} {d:TypeDesc} (hT:P.underlying T=some d) (hd:d.isRow=true) {b o:Nat} {cs:List Value} (hi:(P.info? T).map (·.size)=some cs.length)
  (hx:a.eval x=.pointer (some ⟨b,o,none⟩)) (hc:w.rangeAt b o cs):(execOp a.eval ⟨dst,.load T x,ty,pos,af,gd⟩).run P w=.ok (.value (.agg cs.toArray)) w:=by
 simp only [execOp,hx,Sem.run_bind,run_loadAt_mid w b o T cs d hc hT hd hi,Result.andThen_ok,Sem.run_pure]
theorem ztA {T E size:Nat} {x ix:Operand} (ht:P.underlying T=some (.slice E)) (hs:(P.info? E).map (·.size)=some size) (j:Nat) {ao:Option Addr} {n cap:Nat} {k:IntKind} {i:Int} (hx:a.eval x=.slice ao n cap) (hi:a.eval ix=.int k i)
  (hij:i=j) (h1:j<n) (hsp: ∃ a,ao=some a∧a.spot=none):(execOp a.eval ⟨dst,.indexAddr T x ix,ty,pos,af,gd⟩).run P w=.ok (.value (.pointer (some (adr ao (j * size))))) w:=by
 subst hij
 have:=run_indexAt (w:=w) ht hs ao n cap k (j:Int) (by omega) (by omega) hsp
 simp only [execOp,hx,hi,Sem.run_bind,this,Result.andThen_ok,Sem.run_pure,jJ]
theorem zhe {src D E:TypeId} {x:Operand} (hs:P.underlying src=some (.slice E)) (he:P.underlying E=some (.int .u8)) (hd:P.underlying D=some .string) {v:Value} {n:Nat} {bs:List UInt8} (hx:a.eval x=v) (h:Rd w 1 v n (bvs bs)):
  (execOp a.eval ⟨dst,.convert src D x,ty,pos,af,gd⟩).run P w=.ok (.value (.string (S bs))) w:=by
 simp only [execOp,hx,Sem.run_bind,zdH hs he hd h,Result.andThen_ok,Sem.run_pure]
theorem ziN {T:TypeId} {x ix:Operand} (ht:P.underlying T=some .string) {l:List UInt8} {j:Nat} {c:UInt8} (hc:l[j]? =some c) {k:IntKind} {i:Int} (hx:a.eval x=.string (S l)) (hi:a.eval ix=.int k i) (hij:i=j):
  (execOp a.eval ⟨dst,.index T x ix,ty,pos,af,gd⟩).run P w=.ok (.value (.int .u8 (c.toNat:Int))) w:=by
 subst hij;simp only [execOp,hx,hi,Sem.run_bind,zfx ht l k j c hc,Result.andThen_ok,Sem.run_pure];rfl
theorem zqz {T:TypeId} {x:Operand} {lo hi:Option Operand} (ht:P.underlying T=some .string) {l:List UInt8} (m h:Nat) (hx:a.eval x=.string (S l))
  (hlo:(lo.map a.eval=none∧m=0)∨∃ k i,lo.map a.eval=some (.int k i)∧i=m) (hhi:(hi.map a.eval=none∧h=l.length)∨∃ k i,hi.map a.eval=some (.int k i)∧i=h) (hlh:m≤h) (hn:h≤l.length):
  (execOp a.eval ⟨dst,.slice T x lo hi none,ty,pos,af,gd⟩).run P w=.ok (.value (.string (S ((l.drop m).take (h - m))))) w:=by
 have hlh':(m:Int)≤h:=by omega
 have hn':(h:Int)≤l.length:=by omega
 rcases hlo with⟨e1,rfl⟩|⟨k,i,e1,rfl⟩<;>rcases hhi with⟨e2,rfl⟩|⟨k',i',e2,rfl⟩<;>
  simp [execOp,hx,e1,e2,Instr.sliceAt,Instr.slice,Instr.sliceBounds,Instr.sliceBound,asIntOf,run_underlying ht,hlh,hn,zrD]
theorem zln {T E size:Nat} {x:Operand} {lo hi:Option Operand} (ht:P.underlying T=some (.slice E)) (hs:(P.info? E).map (·.size)=some size) {ao:Option Addr} {n cap:Nat} (l h:Nat) (hcap:n≤cap) (hx:a.eval x=.slice ao n cap)
  (hlo:(lo.map a.eval=none∧l=0)∨∃ k i,lo.map a.eval=some (.int k i)∧i=l) (hhi:(hi.map a.eval=none∧h=n)∨∃ k i,hi.map a.eval=some (.int k i)∧i=h) (hlh:l≤h) (hn:h≤n):
  (execOp a.eval ⟨dst,.slice T x lo hi none,ty,pos,af,gd⟩).run P w=.ok (.value (sub (.slice ao n cap) size l h)) w:=by
 have h1:(lo.map a.eval=none∧l=0)∨∃ k,lo.map a.eval=some (.int k l):=by
  rcases hlo with h|⟨k,i,e,rfl⟩
  · exact .inl h
  · exact .inr ⟨k,e⟩
 have h2:(hi.map a.eval=none∧h=n)∨∃ k,hi.map a.eval=some (.int k h):=by
  rcases hhi with h|⟨k,i,e,rfl⟩
  · exact .inl h
  · exact .inr ⟨k,e⟩
 simp only [execOp,hx,Option.map_none,Sem.run_bind,zhZ ht hs ao n cap l h hcap h1 h2 hlh hn,Result.andThen_ok,Sem.run_pure]
theorem zyJ {P:Program} {w:World} (l:List UInt8):Src P w 1 (.string (S l)) l.length (bvs l):=by simpa using zl7 (P:=P) (w:=w) (S l)
end
end Go.Sep
namespace Go.Ab
open Go Go.Sep
abbrev Str:=List UInt8
structure Fld where (name value:Str)
 deriving DecidableEq
structure Hd where (method target:Str) (minor:Int) (fields:List Fld) (length:Int)
 deriving DecidableEq
structure Prt where (name file type bytes:Str)
 deriving DecidableEq
structure Evt where (kind:Int) (head:Hd) (bytes:Str) (part:Prt) (code:Int)
 deriving DecidableEq
structure Upl where (id size:Int) (note bytes:Str) (sent:Int)
 deriving DecidableEq
structure Ent where (kind id n:Int) (text:Str)
 deriving DecidableEq
structure Stp where (kind conn n:Int) (bytes:Str)
 deriving DecidableEq
structure Ask where (h:Hd) (body:Str)
 deriving DecidableEq
structure Cal where (conn:Int) (gone:Bool) (b:Str)
 deriving DecidableEq
structure Tri where (code:Int) (bytes up:Str)
 deriving DecidableEq
structure Lst where (op n:Int) (b:Str)
 deriving DecidableEq
structure Sst where (op id n:Int) (text:Str)
 deriving DecidableEq
structure Rpl where (status:Int) (fields:List Fld) (body:Str)
 deriving DecidableEq
structure Med where (word:Str) (params:List Fld)
 deriving DecidableEq
inductive U where
 |byte|int|str|fld|bytes|hd|prt|evt|upl|ent|stp|ask|cal|tri|lst|sst|upls|strs|rpl|med|prw
 deriving DecidableEq
@[reducible] def U.den:U→Type
  |.byte=>UInt8|.int=>Int|.str=>Str|.fld=>Fld|.bytes=>Str|.hd=>Hd|.prt=>Prt|.evt=>Evt|.upl=>Upl
  |.ent=>Ent|.stp=>Stp|.ask=>Ask|.cal=>Cal|.tri=>Tri|.lst=>Lst|.sst=>Sst|.upls=>List Upl|.strs=>List Str|.rpl=>Rpl|.med=>Med|.prw=>Prt
def U.size:U→Nat
 |.byte=>1|.int=>1|.str=>1|.fld=>2|.bytes=>1|.hd=>5|.prt=>4|.evt=>12|.upl=>5
 |.ent=>4|.stp=>4|.ask=>6|.cal=>3|.tri=>3|.lst=>3|.sst=>4|.upls=>1|.strs=>1|.rpl=>3|.med=>2|.prw=>4
structure Alg where
 b2i:UInt8→Int
 i2b:Int→UInt8
 add:Int→Int→Int
 sub:Int→Int→Int
 mul:Int→Int→Int
 quo:Int→Int→Int
 rem:Int→Int→Int
 bits:BinOp→IntKind→Int→Int→Int
 shl:IntKind→Int→Int→Int
 shr:Int→Int→Int
 wrap:IntKind→Int→Int
 imin:Int→Int→Int
 imax:Int→Int→Int
 ilt:Int→Int→Bool
 ile:Int→Int→Bool
 ieq:Int→Int→Bool
 bnot:Bool→Bool
 beq:Bool→Bool→Bool
 ban:Bool→Bool→Bool
 seq:Str→Str→Bool
 len: {α:Type}→List α→Int
 app: {α:Type}→List α→List α→List α
 cut: {α:Type}→List α→Int→Int→List α
 get: {α:Type}→List α→α→Int→α
 set: {α:Type}→List α→Int→α→List α
 rep: {α:Type}→Int→α→List α
 inr:IntKind→Int→Prop
 inb:Int→Int→Prop
 cutb:Int→Int→Int→Prop
 same: {α:Type}→α→α→Prop
 few:Int→Int→Prop
 nne:Int→Prop
 nng:Int→Prop
 hid: {α:Type}→α→α
def alg:Alg where
 b2i c:=(c.toNat:Int)
 i2b n:=UInt8.ofNat n.toNat
 add x y:=x+y
 sub x y:=x - y
 mul x y:=x * y
 quo x y:=x.tdiv y
 rem x y:=x.tmod y
 bits op k x y:=k.wrap (match op with
  |.and=>(BitVec.ofInt k.bits x&&& BitVec.ofInt k.bits y).toNat
  |.or=>(BitVec.ofInt k.bits x|||BitVec.ofInt k.bits y).toNat
  |_=>(BitVec.ofInt k.bits x ^^^ BitVec.ofInt k.bits y).toNat:Nat)
 shl k x y:=k.wrap (x * 2 ^ (min y.toNat k.bits))
 shr x y:=x.fdiv (2 ^ (min y.toNat 64))
 wrap k n:=k.wrap n
 imin x y:=if x≤y then x else y
 imax x y:=if x≤y then y else x
 ilt x y:=decide (x<y)
 ile x y:=decide (x≤y)
 ieq x y:=x == y
 bnot b:= !b
 beq a b:=a == b
 ban a b:=a&&b
 seq x y:=x == y
 len l:=(l.length:Int)
 app x y:=x++y
 cut l a b:=(l.drop a.toNat).take (b.toNat - a.toNat)
 get l d i:=l.getD i.toNat d
 set l i x:=l.set i.toNat x
 rep n x:=List.replicate n.toNat x
 inr k n:=k.min≤n∧n≤k.max
 inb i n:=0≤i∧i<n
 cutb l h n:=0≤l∧l≤h∧h≤n
 same x y:=x=y
 few n m:=n≤m
 nne n:=n≠0
 nng n:=0≤n
 hid x:=x
inductive P where
 |int (k:IntKind) (n:Int)
 |bool (b:Bool)
 |str (l:Str)
 |list (u:U) (l:List u.den)
 |nl (l:Str)
 |val (v:Value)
def zqJ (f:Fld):List P:=[.str f.name,.str f.value]
def ztE (h:Hd):List P:=[.str h.method,.str h.target,.int .i64 h.minor,.list .fld h.fields,.int .i64 h.length]
def zqI (p:Prt):List P:=[.str p.name,.str p.file,.str p.type,.nl p.bytes]
def zuM (x:Upl):List P:=[.int .i64 x.id,.int .i64 x.size,.str x.note,.list .byte x.bytes,.int .i64 x.sent]
def enc (I:Alg):(u:U)→u.den→List P
 |.byte,c=>[.int .u8 (I.b2i c)]
 |.int,n=>[.int .i64 n]
 |.str,s=>[.str s]
 |.fld,(f:Fld)=>zqJ f
 |.bytes,(b:Str)=>[.list .byte b]
 |.hd,(h:Hd)=>ztE h
 |.prt,(p:Prt)=>zqI p
 |.evt,(e:Evt)=>.int .i64 e.kind::(ztE e.head++ .list .byte e.bytes::(zqI e.part++[.int .i64 e.code]))
 |.upl,(x:Upl)=>zuM x
 |.ent,(x:Ent)=>[.int .i64 x.kind,.int .i64 x.id,.int .i64 x.n,.list .byte x.text]
 |.stp,(x:Stp)=>[.int .i64 x.kind,.int .i64 x.conn,.int .i64 x.n,.list .byte x.bytes]
 |.ask,(x:Ask)=>ztE x.h++[.list .byte x.body]
 |.cal,(x:Cal)=>[.int .i64 x.conn,.bool x.gone,.list .byte x.b]
 |.tri,(x:Tri)=>[.int .i64 x.code,.list .byte x.bytes,.list .byte x.up]
 |.lst,(x:Lst)=>[.int .i64 x.op,.int .i64 x.n,.list .byte x.b]
 |.sst,(x:Sst)=>[.int .i64 x.op,.int .i64 x.id,.int .i64 x.n,.str x.text]
 |.upls,(l:List Upl)=>[.list .upl l]
 |.strs,(l:List Str)=>[.list .str l]
 |.rpl,(x:Rpl)=>[.int .i64 x.status,.list .fld x.fields,.list .byte x.body]
 |.med,(x:Med)=>[.str x.word,.list .fld x.params]
 |.prw,(p:Prt)=>[.str p.name,.str p.file,.str p.type,.list .byte p.bytes]
theorem xO (I:Alg) (u:U) (x:u.den):(enc I u x).length=u.size:=by
 cases u<;>simp [enc,U.size,zqJ,ztE,zqI,zuM]
def dflt:(u:U)→u.den
 |.byte=>(0:UInt8)|.int=>(0:Int)|.str=>([]:Str)|.fld=>⟨[],[]⟩|.bytes=>([]:Str)|.hd=>⟨[],[],0,[],0⟩|.prt=>⟨[],[],[],[]⟩
 |.evt=>⟨0,⟨[],[],0,[],0⟩,[],⟨[],[],[],[]⟩,0⟩|.upl=>⟨0,0,[],[],0⟩|.ent=>⟨0,0,0,[]⟩|.stp=>⟨0,0,0,[]⟩|.ask=>⟨⟨[],[],0,[],0⟩,[]⟩
 |.cal=>⟨0,false,[]⟩|.tri=>⟨0,[],[]⟩|.lst=>⟨0,0,[]⟩|.sst=>⟨0,0,0,[]⟩|.upls=>([]:List Upl)|.strs=>([]:List Str)|.rpl=>⟨0,[],[]⟩|.med=>⟨[],[]⟩|.prw=>⟨[],[],[],[]⟩
def dec (I:Alg) (u:U) (cs:List P):Option u.den:=
 match u,cs with
 |.byte,[.int .u8 n]=>some (I.i2b n)
 |.int,[.int .i64 n]=>some n
 |.str,[.str s]=>some s
 |.fld,[.str a,.str b]=>some (⟨a,b⟩:Fld)
 |.bytes,[.list .byte b]=>some b
 |.hd,[.str a,.str b,.int .i64 m,.list .fld f,.int .i64 n]=>some (⟨a,b,m,f,n⟩:Hd)
 |.prt,[.str a,.str b,.str c,.nl d]=>some (⟨a,b,c,d⟩:Prt)
 |.prt,[.str a,.str b,.str c,.list .byte d]=>some (⟨a,b,c,d⟩:Prt)
 |.evt,[.int .i64 k,.str a,.str b,.int .i64 m,.list .fld f,.int .i64 n,.list .byte bs,.str x,.str y,.str z,.nl t,.int .i64 c]=>some (⟨k,⟨a,b,m,f,n⟩,bs,⟨x,y,z,t⟩,c⟩:Evt)
 |.upl,[.int .i64 a,.int .i64 b,.str c,.list .byte d,.int .i64 e]=>some (⟨a,b,c,d,e⟩:Upl)
 |.ent,[.int .i64 a,.int .i64 b,.int .i64 c,.list .byte d]=>some (⟨a,b,c,d⟩:Ent)
 |.stp,[.int .i64 a,.int .i64 b,.int .i64 c,.list .byte d]=>some (⟨a,b,c,d⟩:Stp)
 |.ask,[.str a,.str b,.int .i64 m,.list .fld f,.int .i64 n,.list .byte t]=>some (⟨⟨a,b,m,f,n⟩,t⟩:Ask)
 |.cal,[.int .i64 a,.bool b,.list .byte c]=>some (⟨a,b,c⟩:Cal)
 |.tri,[.int .i64 a,.list .byte b,.list .byte c]=>some (⟨a,b,c⟩:Tri)
 |.lst,[.int .i64 a,.int .i64 b,.list .byte c]=>some (⟨a,b,c⟩:Lst)
 |.sst,[.int .i64 a,.int .i64 b,.int .i64 c,.str d]=>some (⟨a,b,c,d⟩:Sst)
 |.upls,[.list .upl l]=>some l
 |.strs,[.list .str l]=>some l
 |.rpl,[.int .i64 a,.list .fld f,.list .byte b]=>some (⟨a,f,b⟩:Rpl)
 |.med,[.str a,.list .fld f]=>some (⟨a,f⟩:Med)
 |.prw,[.str a,.str b,.str c,.list .byte d]=>some (⟨a,b,c,d⟩:Prt)
 |_,_=>none
def qJ (I:Alg) (u:U) (cs:List P):Option Prop:=
 match u,cs with
 |.byte,[.int .u8 n]=>some (I.inr .u8 n)
 |.prt,[.str _,.str _,.str _,.list .byte d]=>some (I.nne (I.len d))
 |_,_=>none
theorem zv1 {n:Int} (h:IntKind.u8.min≤n∧n≤IntKind.u8.max):((UInt8.ofNat n.toNat).toNat:Int)=n:=by
 have h1:IntKind.u8.min=0:=rfl
 have h2:IntKind.u8.max=255:=by decide
 rw [h1,h2] at h
 have:n.toNat<256:=by omega
 rw [UInt8.toNat_ofNat',Nat.mod_eq_of_lt this];omega
structure Ln where
 b:Str
 cr:Bool
 code:Int
 deriving DecidableEq
structure Ch where
 ln:Ln
 pos:Int
 left:Int
 all:Int
 tails:Int
 code:Int
structure Rq where
 ln:Ln
 pos:Int
 h:Hd
 left:Int
 ck:Option Ch
 own:Bool
 out:List Evt
structure Fm where
 mark:Str
 held:Int
 bs:List Int
 pos:Int
 ln:Option Ln
 fields:List Fld
 parts:Int
 skip:Int
 code:Int
 out:List Evt
structure Cn where
 q:Rq
 h:Hd
 body:Str
 live:Bool
 own:Bool
structure Cl where
 b:Str
 n:Int
 dead:Bool
structure Dk where
 o:Str
 w:Bool
 own:Bool
 l:List Upl
 n:Int
 b:Str
 s:Int
 c0:Cn
 c1:Cn
 c2:Cn
 c3:Cn
 t:List Int
inductive Gh where
 |rq (q:Rq)
 |fm (f:Fm)
 |cn (c:Cn)
 |cl (c:Cl)
 |dk (d:Dk)
inductive Cap where
 |p (x:P)
 |ptr (k off:Nat)
inductive C where
 |p (x:P)
 |ptr (k off:Nat)
 |ept (u:U) (k:Nat) (i:Int) (off:Nat)
 |fpt (u:U) (l:List u.den) (i:Int) (off:Nat)
 |row (k:Nat)
 |sub (u:U) (k:Nat) (lo hi:Int)
 |nilS
 |fn (f:Nat) (caps:List Cap)
 |ifc (T:Nat) (agg:Bool) (cs:List P)
 |any
inductive V0 where
 |one (c:C)
 |agg (cs:List C)
inductive D where
 |v (x:V0)
 |tup (l:List V0)
 |bad
inductive HO where
 |obj (T:Nat) (cs:List C)
 |row (u:U) (E:Nat) (l:List u.den)
 |pack (l:List HO)
 |gone
 |abs (g:Gh)
class Facts where
 p:World→Prop
 sh:Gh→List HO
 ab:List HO→Option Gh
 abok: ∀ l g,ab l=some g→sh g=l
variable [Facts]
structure Frz where
 blk:Nat→Option Obj
 os:Os
 tape:Nat→Question→Nat
 output:Array (Nat × ByteArray)
 ok: ∀ w:World,(w.os=os∧w.tape=tape∧w.output=output∧∀ k o,blk k=some o→w.heap[k]? =some o)→Facts.p w
def Frz.re (S S2:Frz) (blk:Nat→Option Obj) (h1:S2.os=S.os) (h2:S2.tape=S.tape) (h3:S2.output=S.output) (h4: ∀ k o,S.blk k=some o→blk k=some o):Frz:=
 ⟨blk,S2.os,S2.tape,S2.output,fun w hw=>S.ok w ⟨hw.1.trans h1,hw.2.1.trans h2,hw.2.2.1.trans h3,fun k o ho=>hw.2.2.2 k o (h4 k o ho)⟩⟩
def frzC (S:Frz):Chunk where
 holds w F:=(∀ k,F k↔(S.blk k).isSome=true)∧w.os=S.os∧w.tape=S.tape∧w.output=S.output∧∀ k o,S.blk k=some o→w.heap[k]? =some o
 lt:=by
  rintro w F ⟨hF,_,_,_,h⟩ k hk;have:=(hF k).1 hk;obtain⟨o,ho⟩:=Option.isSome_iff_exists.1 this;exact(Array.getElem?_eq_some_iff.1 (h k o ho)).1
 keep:=by
  rintro w w' F ⟨hF,h1,h2,h3,h⟩ hk;refine⟨hF,hk.os.trans h1,hk.tape.trans h2,hk.output.trans h3,fun k o ho=> ?_⟩
  rw [hk.block k ((hF k).2 (by rw [ho];rfl))]
  exact h k o ho
def Frz.le (S S':Frz):Prop:=S'.os=S.os∧S'.tape=S.tape∧S'.output=S.output∧∀ k o,S.blk k=some o→S'.blk k=some o
theorem Frz.le.refl (S:Frz):S.le S:=⟨rfl,rfl,rfl,fun _ _ h=>h⟩
theorem Frz.le.trans {A B C:Frz} (h:A.le B) (k:B.le C):A.le C:=
 ⟨k.1.trans h.1,k.2.1.trans h.2.1,k.2.2.1.trans h.2.2.1,fun i o ho=>k.2.2.2 i o (h.2.2.2 i o ho)⟩
def Frz.on (S:Frz) (w:World):Prop:=w.os=S.os∧w.tape=S.tape∧w.output=S.output∧∀ k o,S.blk k=some o→w.heap[k]? =some o
theorem Frz.on.mono {S S':Frz} {w:World} (h:S'.on w) (hle:S.le S'):S.on w:=
 ⟨h.1.trans hle.1,h.2.1.trans hle.2.1,h.2.2.1.trans hle.2.2.1,fun k o ho=>h.2.2.2 k o (hle.2.2.2 k o ho)⟩
theorem Frz.on.facts {S:Frz} {w:World} (h:S.on w):Facts.p w:=S.ok w h
theorem At.frz {S:Frz} {l:List Chunk} {w:World} (H:At w (frzC S::l)):S.on w:=by
 obtain⟨A,h⟩:=H.head;exact h.2
def RdS (S:Frz) (size:Nat) (v:Value) (n:Nat) (cs:List Value):Prop:=∀ w,S.on w→Rd w size v n cs
theorem RdS.mono {S S':Frz} {size:Nat} {v:Value} {n:Nat} {cs:List Value} (h:RdS S size v n cs) (hle:S.le S'):RdS S' size v n cs:=
 fun w hw=>h w (hw.mono hle)
inductive MP (S:Frz):P→Value→Prop
 |int (k:IntKind) (n:Int):MP S (.int k n) (.int k n)
 |bool (b:Bool):MP S (.bool b) (.bool b)
 |str (l:Str) (h:l.length≤maxLen):MP S (.str l) (.string (Sep.S l))
 |list (u:U) (l:List u.den) (ao:Option Addr) (cap:Nat) (vs:List Value) (hlen:vs.length=l.length * u.size) (h:RdS S u.size (.slice ao l.length cap) l.length vs)
  (hx: ∀ (i:Nat) (x:u.den) (j:Nat) (p:P) (v:Value),l[i]? =some x→(enc alg u x)[j]? =some p→vs[i * u.size+j]? =some v→MP S p v):MP S (.list u l) (.slice ao l.length cap)
 |nl (l:Str) (v:Value) (h0:l=[]→v=.slice none 0 0) (h:MP S (.list .byte l) v):MP S (.nl l) v
 |val (v:Value) (h:v.oneCell'=true):MP S (.val v) v
theorem MP.one {S:Frz} {p:P} {v:Value} (h:MP S p v):v.oneCell'=true:=by cases h<;>first|rfl|assumption|(cases ‹MP S (.list _ _) _›;rfl)
theorem MP.mono {S S':Frz} (hle:S.le S') {p:P} {v:Value} (h:MP S p v):MP S' p v:=by
 induction h with
 |int k n=>exact .int k n
 |bool b=>exact .bool b
 |str l h=>exact .str l h
 |list u l ao cap vs hlen h hx ih=>exact .list u l ao cap vs hlen (h.mono hle) ih
 |nl l v h0 h ih=>exact .nl l v h0 ih
 |val v h=>exact .val v h
def MPs (S:Frz):List P→List Value→Prop
 |[],[]=>True
 |p::ps,v::vs=>MP S p v∧MPs S ps vs
 |_,_=>False
theorem VT {S:Frz} {u:U} {cs:List P} {x:u.den} {vs:List Value} (h:dec alg u cs=some x) (hn: ∀ p,qJ alg u cs=some p→p) (hm:MPs S cs vs):MPs S (enc alg u x) vs:=by
 unfold dec at h
 split at h
 case h_1 n=>
  cases h;have:enc alg .byte (alg.i2b n)=[P.int .u8 n]:=congrArg (fun m=>[P.int .u8 m]) (zv1 (hn _ rfl));rw [this];exact hm
 case h_8 a b c d=>
  cases h;have hd:alg.nne (alg.len d):=hn _ rfl
  match vs,hm with
  |[v1,v2,v3,v4],⟨h1,h2,h3,h4,_⟩=>exact⟨h1,h2,h3,.nl d v4 (fun e=>absurd (by rw [e];rfl) hd) h4,trivial⟩
 all_goals(cases h<;>exact hm)
inductive CO where
 |obj (b T:Nat) (vs:List Value)
 |row (E size:Nat) (ao:Option Addr) (n cap:Nat) (vs:List Value)
 |pack (l:List CO)
 |gone (v:Value)
mutual
def CO.base:CO→Value
 |.obj b _ _=>.pointer (some ⟨b,0,none⟩)
 |.row _ _ ao n cap _=>.slice ao n cap
 |.pack l=>CO.zzh l
 |.gone v=>v
def CO.zzh:List CO→Value
 |[]=>undef
 |c::_=>c.base
end
mutual
def CO.chunk:CO→Chunk
 |.obj b T vs=>objC b T vs
 |.row E size ao n cap vs=>rowC E size (.slice ao n cap) n vs
 |.pack l=>sepC (CO.zy l)
 |.gone _=>zoZ True
def CO.zy:List CO→List Chunk
 |[]=>[]
 |c::l=>c.chunk::CO.zy l
end
theorem CO.Yy (l:List CO):CO.zy l=l.map CO.chunk:=by
 induction l with
 |nil=>rfl
 |cons c l ih=>simp [CO.zy,ih]
def zhC (size:Nat) (ao:Option Addr) (n cap l h:Nat) (v:Value):Prop:=
 ∃ ao' cap',v=.slice ao' (h - l) cap'∧l≤h∧h≤n∧h - l≤cap'∧cap'≤maxLen∧(ao'=none→cap'=0)∧(l<h→ao'=ao.map (·.add (l * size)))∧(l=0→ao'=ao∧cap'≤cap)
theorem Vg (ao:Option Addr) (k:Nat) (h:k=0):ao.map (·.add k)=ao:=by
 subst h
 cases ao with
 |none=>rfl
 |some a=>rfl
theorem zhC.mk {w:World} {size:Nat} {ao:Option Addr} {n cap l h:Nat} {cs:List Value} (hr:Rd w size (.slice ao n cap) n cs) (h1:l≤h) (h2:h≤n):zhC size ao n cap l h (Sep.sub (.slice ao n cap) size l h):=by
 obtain⟨_,_,e,hnc,hcm,hno,_⟩:=hr;cases e
 refine⟨_,_,rfl,h1,h2,by omega,by omega,fun e=> ?_,fun hlt=>if_neg (by omega),fun h0=>⟨?_,by omega⟩⟩
 case refine_2=>subst h0;rw [Vg _ _ (Nat.zero_mul _),ite_self]
 split at e
 · omega
 · cases ao with
   |none=>have:=hno rfl;omega
   |some a=>cases e
theorem zhC.sub {size:Nat} {ao:Option Addr} {n cap l h:Nat} {v:Value} (hs:zhC size ao n cap l h v) {l' h':Nat} (h1:l'≤h') (h2:h'≤h - l):zhC size ao n cap (l+l') (l+h') (Sep.sub v size l' h'):=by
 obtain⟨ao',cap',rfl,h3,h4,h5,h6,h7,h8,h9⟩:=hs
 refine⟨_,_,by unfold Sep.sub;simp only [Nat.add_sub_add_left];rfl,by omega,by omega,by omega,by omega,fun e=> ?_,fun hlt=> ?_,fun h0=> ?_⟩
 case refine_3=>
  obtain⟨e,hc⟩:=h9 (by omega)
  have:l'=0:=by omega
  subst this;rw [Vg _ _ (Nat.zero_mul _),ite_self]
  exact⟨e,by omega⟩
 · split at e
   · have:=h7 e;omega
   · cases ao' with
     |none=>have:=h7 rfl;omega
     |some a=>cases e
 · rw [if_neg (by omega),h8 (by omega)]
   cases ao with
   |none=>rfl
   |some a=>simp only [Option.map_some,Addr.add_add,Nat.add_mul]
theorem zhC.rd {w:World} {size:Nat} {ao:Option Addr} {n cap l h:Nat} {cs:List Value} {v:Value} (hs:zhC size ao n cap l h v) (hr:Rd w size (.slice ao n cap) n cs):
  Rd w size v (h - l) ((cs.drop (l * size)).take ((h - l) * size)):=by
 obtain⟨ao',cap',rfl,h3,h4,h5,h6,h7,h8,-⟩:=hs;have hs:=hr.sub h3 h4;have hlen:=hs.len;obtain⟨_,_,e0,hnc,hcm,hno,_⟩:=hr;cases e0;refine⟨ao',cap',rfl,h5,h6,h7,hlen,fun j u hj=> ?_⟩
 have hlt:l<h:=by
  have h9:=(jl.1 hj).1;rw [hlen] at h9
  rcases Nat.eq_zero_or_pos (h - l) with h0|h0
  · rw [h0] at h9;simp at h9
  · omega
 rw [h8 hlt];obtain⟨_,_,e,_,_,_,_,hc⟩:=hs;unfold Sep.sub at e;simp only at e
 rw [if_neg (by omega)] at e
 cases e;exact hc j u hj
def MCap (S:Frz) (bs:List Value):Cap→Value→Prop
 |.p x,v=>MP S x v
 |.ptr k off,v=>∃ b,bs[k]? =some (.pointer (some ⟨b,0,none⟩))∧v=.pointer (some ⟨b,off,none⟩)
def ZV (S:Frz) (bs:List Value):List Cap→List Value→Prop
 |[],[]=>True
 |p::ps,v::vs=>MCap S bs p v∧ZV S bs ps vs
 |_,_=>False
def MC (S:Frz) (bs:List Value):C→Value→Prop
 |.p x,v=>MP S x v
 |.ptr k off,v=>∃ b,bs[k]? =some (.pointer (some ⟨b,0,none⟩))∧v=.pointer (some ⟨b,off,none⟩)
 |.ept u k i off,v=>∃ ao n cap,bs[k]? =some (.slice ao n cap)∧0≤i∧v=.pointer (some (adr ao (i.toNat * u.size+off)))
 |.fpt u l i off,v=>∃ ao cap vs,vs.length=l.length * u.size∧RdS S u.size (.slice ao l.length cap) l.length vs∧(∀ (i:Nat) (x:u.den) (j:Nat) (p:P) (v:Value),l[i]? =some x→(enc alg u x)[j]? =some p→vs[i * u.size+j]? =some v→MP S p v)∧
  0≤i∧v=.pointer (some (adr ao (i.toNat * u.size+off)))
 |.row k,v=>bs[k]? =some v∧∃ ao n cap,v=.slice ao n cap
 |.sub u k lo hi,v=>∃ ao n cap,bs[k]? =some (.slice ao n cap)∧0≤lo∧0≤hi∧zhC u.size ao n cap lo.toNat hi.toNat v
 |.nilS,v=>v=.slice none 0 0
 |.fn f caps,v=>∃ vs:List Value,ZV S bs caps vs∧v=.func (.func f) #[] vs.toArray
 |.ifc T false [p],v=>∃ x,MP S p x∧v=.iface T x
 |.ifc T true ps,v=>∃ vs:List Value,MPs S ps vs∧v=.iface T (.agg vs.toArray)
 |.ifc _ _ _,_=>False
 |.any,v=>v.oneCell'=true
end Go.Ab
namespace Go.Ab
open Go Go.Sep
variable [Facts]
def MCs (S:Frz) (bs:List Value):List C→List Value→Prop
 |[],[]=>True
 |c::cs,v::vs=>MC S bs c v∧MCs S bs cs vs
 |_,_=>False
def MV (S:Frz) (bs:List Value):V0→Value→Prop
 |.one c,v=>MC S bs c v
 |.agg cs,v=>∃ vs:List Value,MCs S bs cs vs∧v=.agg vs.toArray
def MVs (S:Frz) (bs:List Value):List V0→List Value→Prop
 |[],[]=>True
 |c::cs,v::vs=>MV S bs c v∧MVs S bs cs vs
 |_,_=>False
def MD (S:Frz) (bs:List Value):D→Value→Prop
 |.v x,v=>MV S bs x v
 |.tup l,v=>∃ vs:List Value,MVs S bs l vs∧v=.tuple vs.toArray
 |.bad,_=>True
theorem MPs.length {S:Frz}: ∀ {ps:List P} {vs:List Value},MPs S ps vs→vs.length=ps.length
 |[],[],_=>rfl
 |_::_,_::_,h=>congrArg (· +1) (MPs.length h.2)
theorem MCs.length {S:Frz} {bs:List Value}: ∀ {cs:List C} {vs:List Value},MCs S bs cs vs→vs.length=cs.length
 |[],[],_=>rfl
 |_::_,_::_,h=>congrArg (· +1) (MCs.length h.2)
theorem MCs.get {S:Frz} {bs:List Value}: ∀ {cs:List C} {vs:List Value},MCs S bs cs vs→∀ {j:Nat} {c:C},cs[j]? =some c→∃ v,vs[j]? =some v∧MC S bs c v
 |[],[],_,j,c,h=>by simp at h
 |c::cs,v::vs,h,0,c',e=>by simp at e;subst e;exact⟨v,rfl,h.1⟩
 | c::cs,v::vs,h,j+1,c',e=>by
   obtain⟨u,h1,h2⟩:=MCs.get h.2 (j:=j) (c:=c') (by simpa using e)
   exact⟨u,by simpa using h1,h2⟩
theorem MPs.get {S:Frz}: ∀ {cs:List P} {vs:List Value},MPs S cs vs→∀ {j:Nat} {c:P},cs[j]? =some c→∃ v,vs[j]? =some v∧MP S c v
 |[],[],_,j,c,h=>by simp at h
 |c::cs,v::vs,h,0,c',e=>by simp at e;subst e;exact⟨v,rfl,h.1⟩
 | c::cs,v::vs,h,j+1,c',e=>by
   obtain⟨u,h1,h2⟩:=MPs.get h.2 (j:=j) (c:=c') (by simpa using e)
   exact⟨u,by simpa using h1,h2⟩
theorem MCs.zci {S:Frz} {bs:List Value}: ∀ {cs:List C} {vs:List Value},vs.length=cs.length→(∀ (j:Nat) (c:C) (v:Value),cs[j]? =some c→vs[j]? =some v→MC S bs c v)→MCs S bs cs vs
 |[],[],_,_=>trivial
 |c::cs,v::vs,hl,h=>⟨h 0 c v rfl rfl,MCs.zci (by simpa using hl) fun j c' v' h1 h2=>h (j+1) c' v' (by simpa using h1) (by simpa using h2)⟩
theorem MPs.zci {S:Frz}: ∀ {cs:List P} {vs:List Value},vs.length=cs.length→(∀ (j:Nat) (c:P) (v:Value),cs[j]? =some c→vs[j]? =some v→MP S c v)→MPs S cs vs
 |[],[],_,_=>trivial
 |c::cs,v::vs,hl,h=>⟨h 0 c v rfl rfl,MPs.zci (by simpa using hl) fun j c' v' h1 h2=>h (j+1) c' v' (by simpa using h1) (by simpa using h2)⟩
theorem MPs.mono {S S':Frz} (hle:S.le S'): ∀ {cs:List P} {vs:List Value},MPs S cs vs→MPs S' cs vs
 |[],[],_=>trivial
 |_::_,_::_,h=>⟨h.1.mono hle,MPs.mono hle h.2⟩
theorem MPs.mcs {S:Frz} {bs:List Value}: ∀ {cs:List P} {vs:List Value},MPs S cs vs→MCs S bs (cs.map C.p) vs
 |[],[],_=>trivial
 |_::_,_::_,h=>⟨h.1,MPs.mcs h.2⟩
theorem MCs.slice {S:Frz} {bs:List Value} {cs:List C} {vs:List Value} (h:MCs S bs cs vs) (o n:Nat):MCs S bs ((cs.drop o).take n) ((vs.drop o).take n):=by
 have hl:=h.length
 refine MCs.zci (by simp [hl]) fun j c v hc hv=> ?_
 rw [jD] at hc hv
 split at hc
 · rename_i hj
   rw [if_pos hj] at hv;rw [jG] at hc hv;obtain⟨u,hu,hm⟩:=h.get hc;rw [hu] at hv;cases hv;exact hm
 · cases hc
theorem MCs.set {S:Frz} {bs:List Value} {cs:List C} {vs:List Value} (h:MCs S bs cs vs) (o:Nat) {c:C} {v:Value} (hc:MC S bs c v):MCs S bs (cs.set o c) (vs.set o v):=by
 have hl:=h.length
 refine MCs.zci (by simp [hl]) fun j c' v' h1 h2=> ?_
 rw [List.getElem?_set] at h1 h2
 by_cases hj:o=j
 · subst hj
   simp only [if_true] at h1 h2
   split at h1
   · rename_i hlt
     rw [if_pos (by omega)] at h2
     cases h1;cases h2;exact hc
   · cases h1
 · rw [if_neg hj] at h1 h2
   obtain⟨u,hu,hm⟩:=h.get h1;rw [hu] at h2;cases h2;exact hm
def Ext (bs bs':List Value):Prop:=∀ (k:Nat) (v:Value),bs[k]? =some v→bs'[k]? =some v
theorem Ext.refl (bs:List Value):Ext bs bs:=fun _ _ h=>h
theorem Ext.trans {a b c:List Value} (h:Ext a b) (k:Ext b c):Ext a c:=fun i v hv=>k i v (h i v hv)
theorem Ext.append (a b:List Value):Ext a (a++b):=fun k v h=>by
 have:=(jl.1 h).1;rw [jy this];exact h
theorem MCap.mono {S S':Frz} (hle:S.le S') {bs bs':List Value} (he:Ext bs bs') {c:Cap} {v:Value} (h:MCap S bs c v):MCap S' bs' c v:=by
 cases c with
 |p x=>exact MP.mono hle h
 |ptr k off=>obtain⟨b,h1,h2⟩:=h;exact⟨b,he _ _ h1,h2⟩
theorem ZV.mono {S S':Frz} (hle:S.le S') {bs bs':List Value} (he:Ext bs bs'): ∀ {cs:List Cap} {vs:List Value},ZV S bs cs vs→ZV S' bs' cs vs
 |[],[],_=>trivial
 |_::_,_::_,h=>⟨h.1.mono hle he,ZV.mono hle he h.2⟩
theorem MC.mono {S S':Frz} (hle:S.le S') {bs bs':List Value} (he:Ext bs bs'): ∀ {c:C} {v:Value},MC S bs c v→MC S' bs' c v:=by
 intro c v h
 cases c with
 |p x=>exact MP.mono hle h
 |ptr k off=>obtain⟨b,h1,h2⟩:=h;exact⟨b,he _ _ h1,h2⟩
 |ept u k i off=>obtain⟨ao,n,cap,h1,h2⟩:=h;exact⟨ao,n,cap,he _ _ h1,h2⟩
 |fpt u l i off=>obtain⟨ao,cap,vs,h0,h1,h2,h3⟩:=h;exact⟨ao,cap,vs,h0,h1.mono hle,fun i x j p v a b c=>(h2 i x j p v a b c).mono hle,h3⟩
 |row k=>exact⟨he _ _ h.1,h.2⟩
 |sub u k lo hi=>obtain⟨ao,n,cap,h1,h2⟩:=h;exact⟨ao,n,cap,he _ _ h1,h2⟩
 |nilS=>exact h
 |fn f caps=>obtain⟨vs,h1,h2⟩:=h;exact⟨vs,h1.mono hle he,h2⟩
 | ifc T agg cs=>
   cases agg with
   | false=>
     cases cs with
     |nil=>exact h.elim
     | cons p ps=>
       cases ps with
       |nil=>obtain⟨x,h1,h2⟩:=h;exact⟨x,h1.mono hle,h2⟩
       |cons q qs=>exact h.elim
   |true=>obtain⟨vs,h1,h2⟩:=h;exact⟨vs,h1.mono hle,h2⟩
 |any=>exact h
theorem MCs.mono {S S':Frz} (hle:S.le S') {bs bs':List Value} (he:Ext bs bs'): ∀ {cs:List C} {vs:List Value},MCs S bs cs vs→MCs S' bs' cs vs
 |[],[],_=>trivial
 |_::_,_::_,h=>⟨h.1.mono hle he,MCs.mono hle he h.2⟩
theorem MV.mono {S S':Frz} (hle:S.le S') {bs bs':List Value} (he:Ext bs bs') {c:V0} {v:Value} (h:MV S bs c v):MV S' bs' c v:=by
 cases c with
 |one c=>exact MC.mono hle he h
 |agg cs=>obtain⟨vs,h1,h2⟩:=h;exact⟨vs,h1.mono hle he,h2⟩
theorem MVs.mono {S S':Frz} (hle:S.le S') {bs bs':List Value} (he:Ext bs bs'): ∀ {cs:List V0} {vs:List Value},MVs S bs cs vs→MVs S' bs' cs vs
 |[],[],_=>trivial
 |_::_,_::_,h=>⟨h.1.mono hle he,MVs.mono hle he h.2⟩
theorem MD.mono {S S':Frz} (hle:S.le S') {bs bs':List Value} (he:Ext bs bs') {d:D} {v:Value} (h:MD S bs d v):MD S' bs' d v:=by
 cases d with
 |v x=>exact MV.mono hle he h
 |tup l=>obtain⟨vs,h1,h2⟩:=h;exact⟨vs,h1.mono hle he,h2⟩
 |bad=>trivial
theorem MC.one {S:Frz} {bs:List Value} {c:C} {v:Value} (h:MC S bs c v):v.oneCell'=true:=by
 cases c with
 |p x=>exact MP.one h
 |ptr k off=>obtain⟨b,_,rfl⟩:=h;rfl
 |ept u k i off=>obtain⟨ao,n,cap,_,_,rfl⟩:=h;rfl
 |fpt u l i off=>obtain⟨ao,cap,vs,_,_,_,_,rfl⟩:=h;rfl
 |row k=>obtain⟨_,ao,n,cap,rfl⟩:=h;rfl
 |sub u k lo hi=>obtain⟨ao,n,cap,_,_,_,_,_,rfl,_⟩:=h;rfl
 |nilS=>cases h;rfl
 |fn f caps=>obtain⟨vs,_,rfl⟩:=h;rfl
 | ifc T agg cs=>
   cases agg with
   | false=>
     cases cs with
     |nil=>exact h.elim
     | cons p ps=>
       cases ps with
       |nil=>obtain⟨x,_,rfl⟩:=h;rfl
       |cons q qs=>exact h.elim
   |true=>obtain⟨vs,_,rfl⟩:=h;rfl
 |any=>exact h
theorem MCs.one {S:Frz} {bs:List Value} {cs:List C} {vs:List Value} (h:MCs S bs cs vs): ∀ v ∈ vs,v.oneCell'=true:=by
 intro v hv;obtain⟨j,hj⟩:=List.getElem?_of_mem hv;have hl:=h.length;have hlt:=(jl.1 hj).1
 obtain⟨u,hu,hm⟩:=h.get (j:=j) (jm (by omega))
 rw [hu] at hj;cases hj;exact hm.one
inductive Rel (S:Frz):List Value→HO→CO→Prop
 |obj {bs:List Value} {b T:Nat} {cs:List C} {vs:List Value} (h:MCs S bs cs vs):Rel S bs (.obj T cs) (.obj b T vs)
 |row {bs:List Value} {u:U} {E:Nat} {l:List u.den} {ao:Option Addr} {cap:Nat} {vs:List Value} (hlen:vs.length=l.length * u.size)
  (hx: ∀ (i:Nat) (x:u.den) (j:Nat) (p:P) (v:Value),l[i]? =some x→(enc alg u x)[j]? =some p→vs[i * u.size+j]? =some v→MP S p v):Rel S bs (.row u E l) (.row E u.size ao l.length cap vs)
 |pack {bs:List Value} {hs:List HO} {K:List CO} (hl:hs.length=K.length) (h: ∀ (i:Nat) (o:HO) (c:CO),hs[i]? =some o→K[i]? =some c→Rel S (K.map CO.base) o c):Rel S bs (.pack hs) (.pack K)
 |gone {bs:List Value} {c:CO}:Rel S bs .gone c
 |abs {bs:List Value} {g:Gh} {K:List CO} (hl:(Facts.sh g).length=K.length) (h: ∀ (i:Nat) (o:HO) (c:CO),(Facts.sh g)[i]? =some o→K[i]? =some c→Rel S (K.map CO.base) o c):Rel S bs (.abs g) (.pack K)
theorem Rel.mono {S S':Frz} (hle:S.le S') {bs:List Value} {o:HO} {c:CO} (h:Rel S bs o c): ∀ {bs':List Value},Ext bs bs'→Rel S' bs' o c:=by
 induction h with
 |obj h=>intro bs' he;exact .obj (h.mono hle he)
 |row hlen hx=>intro bs' _;exact .row hlen fun i x j p v a b c=>(hx i x j p v a b c).mono hle
 |pack hl h ih=>intro bs' _;exact .pack hl fun i o c a b=>ih i o c a b (Ext.refl _)
 |gone=>intro bs' _;exact .gone
 |abs hl h ih=>intro bs' _;exact .abs hl fun i o c a b=>ih i o c a b (Ext.refl _)
theorem Rel.zrC {S:Frz} {bs:List Value} {g:Gh} {c:CO}:Rel S bs (.abs g) c↔Rel S bs (.pack (Facts.sh g)) c:=by
 constructor
 · intro h;cases h with|abs a b=>exact .pack a b
 · intro h;cases h with|pack a b=>exact .abs a b
def partsOf:HO→List HO
 |.pack l=>l
 |.abs g=>Facts.sh g
 |_=>[]
theorem Rel.parts {S:Frz} {bs:List Value} {o:HO} {c:CO} (h:Rel S bs o c) {h0:HO} {hs:List HO} (hp:partsOf o=h0::hs):
  ∃ K,c=.pack K∧(h0::hs).length=K.length∧∀ (i:Nat) (o:HO) (c:CO),(h0::hs)[i]? =some o→K[i]? =some c→Rel S (K.map CO.base) o c:=by
 cases h with
 |obj h=>cases hp
 |row a b=>cases hp
 |gone=>cases hp
 |pack a b=>simp only [partsOf] at hp;subst hp;exact⟨_,rfl,a,b⟩
 |abs a b=>simp only [partsOf] at hp;rw [hp] at a b;exact⟨_,rfl,a,b⟩
def zfQ (l:List HO):HO:=match Facts.ab l with|some g=>.abs g|none=>.pack l
theorem Rel.zfQ {S:Frz} {bs:List Value} {l:List HO} {c:CO} (h:Rel S bs (.pack l) c):Rel S bs (zfQ l) c:=by
 unfold Ab.zfQ
 split
 · rename_i g hg;rw [Rel.zrC,Facts.abok _ _ hg];exact h
 · exact h
def znm:HO→HO
 |.abs g=>.pack (Facts.sh g)
 |o=>o
def X0:List HO→List HO
 |[]=>[]
 |o::r=>znm o::X0 r
theorem zbQ {S:Frz} {bs:List Value} {o:HO} {c:CO}:Rel S bs (znm o) c↔Rel S bs o c:=by
 cases o<;>first|exact Iff.rfl|exact Rel.zrC.symm
theorem zab: ∀ {l:List HO} {i:Nat},(X0 l)[i]? =(l[i]?).map znm
 |[],i=>by simp [X0]
 |o::r,0=>by simp [X0]
 |o::r,i+1=>by simp [X0,zab (l:=r)]
theorem Tm: ∀ (l:List HO),(X0 l).length=l.length
 |[]=>rfl
 |o::r=>congrArg (· +1) (Tm r)
def HR (S:Frz) (bs:List Value) (hp:List HO) (K:List CO):Prop:=hp.length=K.length∧∀ (i:Nat) (o:HO) (c:CO),hp[i]? =some o→K[i]? =some c→Rel S bs o c
theorem HR.ze9 {S:Frz} {bs:List Value} {hp:List HO} {K:List CO}:HR S bs (X0 hp) K↔HR S bs hp K:=by
 unfold HR;rw [Tm];refine and_congr Iff.rfl ⟨fun h i o c a b=> ?_,fun h i o c a b=> ?_⟩
 · exact zbQ.1 (h i _ c (by rw [zab,a];rfl) b)
 · rw [zab,Option.map_eq_some_iff] at a
   obtain⟨o',h1,rfl⟩:=a;exact zbQ.2 (h i o' c h1 b)
theorem HR.mono {S S':Frz} (hle:S.le S') {bs bs':List Value} (he:Ext bs bs') {hp:List HO} {K:List CO} (h:HR S bs hp K):HR S' bs' hp K:=
 ⟨h.1,fun i o c a b=>(h.2 i o c a b).mono hle he⟩
theorem HR.get {S:Frz} {bs:List Value} {hp:List HO} {K:List CO} (h:HR S bs hp K) {k:Nat} {o:HO} (ho:hp[k]? =some o): ∃ c,K[k]? =some c∧Rel S bs o c:=by
 have hlt:=(jl.1 ho).1
 have:k<K.length:=by rw [← h.1];exact hlt
 exact⟨K[k],jm this,h.2 k o _ ho (jm this)⟩
structure St where
 env:List (Nat × D)
 hp:List HO
 n:Nat
 df:Option (Nat × List Cap):=none
def look:List (Nat × D)→Nat→Option D
 |[],_=>none
 |(k,d)::r,t=>match Nat.beq k t with|true=>some d|false=>look r t
theorem xK (k:Nat) (d:D) (r:List (Nat × D)) (t:Nat):look ((k,d)::r) t=if k=t then some d else look r t:=by
 simp only [look]
 split
 · rename_i h;rw [if_pos (jI h)]
 · rename_i h;rw [if_neg (Nat.ne_of_beq_eq_false h)]
def MDf (S:Frz) (bs:List Value):Option (Nat × List Cap)→List Deferred→Prop
 |none,ds=>ds=[]
 |some (g,caps),ds=>∃ vs:List Value,ZV S bs caps vs∧ds=[⟨.fn (.func g) vs.toArray,#[]⟩]
theorem MDf.mono {S S':Frz} (hle:S.le S') {bs bs':List Value} (he:Ext bs bs'): ∀ {df:Option (Nat × List Cap)} {ds:List Deferred},MDf S bs df ds→MDf S' bs' df ds
 |none,_,h=>h
 |some (_,_),_,⟨vs,h,e⟩=>⟨vs,h.mono hle he,e⟩
structure Env (S:Frz) (bs:List Value) (st:St) (a:Act):Prop where
 size:a.tmps.size=st.n
 defers:MDf S bs st.df a.defers
 slots: ∀ t d,look st.env t=some d→MD S bs d (a.tmps.getD t undef)
theorem Env.mono {S S':Frz} (hle:S.le S') {bs bs':List Value} (he:Ext bs bs') {st:St} {a:Act} (h:Env S bs st a):Env S' bs' st a:=
 ⟨h.size,h.defers.mono hle he,fun t d hd=>(h.slots t d hd).mono hle he⟩
structure Ctx where
 S0:Frz
 bs0:List Value
 fr:List Chunk
def Heap (X:Ctx) (hp:List HO) (S:Frz) (K:List CO) (w:World):Prop:=
 X.S0.le S∧Ext X.bs0 (K.map CO.base)∧HR S (K.map CO.base) hp K∧At w (frzC S::(CO.zy K++X.fr))
end Go.Ab
namespace Go.Ab
open Go Go.Sep
variable [Facts]
inductive Ty where
 |bool|int (k:IntKind)|str|ptr|slice (e:Nat)|struct (fs:List (Nat × Nat))|array (n e:Nat)|other|iface
structure TE where
 ty:Ty
 size:Nat
 bytes:Nat
 zero:Option (List P)
 u:Option U
abbrev Tab:=Nat→Option TE
def nth {α:Type}:List α→Nat→Option α
 |[],_=>none
 |x::_,0=>some x
 |_::l,n+1=>nth l n
theorem yg {α:Type}: ∀ (l:List α) (n:Nat),nth l n=l[n]?
 |[],_=>by simp [nth]
 |x::l,0=>rfl
 |x::l,n+1=>by simp only [nth,List.getElem?_cons_succ];exact yg l n
def zga:IntKind→IntKind→Bool
 |.i8,.i8|.i16,.i16|.i32,.i32|.i64,.i64|.u8,.u8|.u16,.u16|.u32,.u32|.u64,.u64=>true
 |_,_=>false
theorem tX {a b:IntKind} (h:zga a b=true):a=b:=by cases a<;>cases b<;>first|rfl|cases h
def Ty.fits:Ty→TypeDesc→Bool
 |.bool,.bool=>true
 |.int k,.int k'=>zga k k'
 |.str,.string=>true
 |.ptr,.pointer _=>true
 |.slice e,.slice e'=>e == e'
 |.struct fs,.struct gs=>gs.toList.map (fun f=>(f.offset,f.type)) == fs
 |.array n e,.array n' e'=>n == n'&&e == e'
 |.iface,.interface _=>true
 |.other,d=> !d.isRow
 |_,_=>false
def yH:List Value→List P→Bool
 |[],[]=>true
 |.int k 0::vs,.int k' 0::ps=>zga k k'&&yH vs ps
 |.bool false::vs,.bool false::ps=>yH vs ps
 |.string ⟨⟨[]⟩⟩::vs,.str []::ps=>yH vs ps
 |.slice none 0 0::vs,.list _ []::ps=>yH vs ps
 |.slice none 0 0::vs,.nl []::ps=>yH vs ps
 |.pointer none::vs,.val (.pointer none)::ps=>yH vs ps
 |.nilFunc::vs,.val .nilFunc::ps=>yH vs ps
 |.nilIface::vs,.val .nilIface::ps=>yH vs ps
 |_,_=>false
def zcd:Ty→Bool
 |.bool|.int _|.str=>true
 |_=>false
def TG (T:Tab):List (Nat × Nat)→Bool
 |[]=>true
 |(_,t)::r=>match T t with|some e=>zcd e.ty&&TG T r|none=>false
def zuL (P:Program) (T:Tab) (t:Nat) (ty:Ty) (d:TypeDesc):Bool:=
 match ty,d with
 |.struct fs,.struct gs=> !TG T fs||((gs.toList.all fun f=>f.name != "_")&& !P.stoodInHeld t)
 |_,_=>true
def TE.fits (P:Program) (T:Tab) (t:Nat) (e:TE):Bool:=
 match P.underlying t,P.info? t with
 |some d,some i=>zuL P T t e.ty d&&e.ty.fits d&&i.size == e.size&&i.bytes == e.bytes&&
  (match e.zero with|none=>true|some z=>match i.zero with|some v=>yH v.cells.toList z&&z.length == e.size|none=>false)&&
  (match e.u with|none=>true|some u=>match e.ty with|.slice el=>(match T el with|some ee=>ee.size == u.size&&decide (0<u.size)|none=>false)|_=>false)
 |_,_=>false
def Tab.fits (P:Program) (T:Tab):Prop:=∀ t e,T t=some e→e.fits P T t=true
inductive TT where
 |nil
 |node (l:TT) (k:Nat) (e:TE) (r:TT)
def TT.get:TT→Tab
 |.nil,_=>none
 |.node l k e r,t=>match Nat.beq t k with|true=>some e|false=>match Nat.blt t k with|true=>l.get t|false=>r.get t
def TT.all (p:Nat→TE→Bool):TT→Bool
 |.nil=>true
 |.node l k e r=>l.all p&&p k e&&r.all p
theorem TT.zja {p:Nat→TE→Bool}: ∀ {x:TT} {t:Nat} {e:TE},x.all p=true→x.get t=some e→p t e=true
 |.nil,t,e,_,h=>by cases h
 | .node l k e0 r,t,e,ha,h=>by
   simp only [TT.all,jK] at ha;simp only [TT.get] at h
   split at h
   · rename_i hk;cases h;rw [jI hk];exact ha.1.2
   · split at h
     · exact TT.zja ha.1.1 h
     · exact TT.zja ha.2 h
theorem Tab.zwk {P:Program} {x:TT} (h:x.all (fun t e=>e.fits P x.get t)=true):Tab.fits P x.get:=fun _ _ he=>TT.zja h he
def zc:P→C
 |.list _ []=>.nilS
 |.nl []=>.nilS
 |p=>.p p
def purC (z:P) (c:C):Option P:=
 match c with
 |.p x=>some x
 |.nilS=>match z with|.list u _=>some (.list u [])|.nl _=>some (.nl [])|_=>none
 |_=>none
def qC:List P→List C→Option (List P)
 |[],[]=>some []
 |z::zs,c::cs=>match purC z c,qC zs cs with|some p,some ps=>some (p::ps)|_,_=>none
 |_,_=>none
def cpyL {α β:Type}:List α→(List α→β)→β
 |[],k=>k []
 |x::l,k=>cpyL l fun l=>k (x::l)
theorem zq1 {α β:Type}: ∀ (l:List α) (k:List α→β),cpyL l k=k l
 |[],_=>rfl
 |x::l,k=>by rw [cpyL,zq1 l]
def zie:Value→Option C
 |.int k n=>some (.p (.int k n))
 |.bool true=>some (.p (.val (.bool true)))
 |.bool false=>some (.p (.val (.bool false)))
 |.string s=>match decide (s.data.toList.length≤100000) with|true=>cpyL s.data.toList fun l=>some (.p (.str l))|false=>none
 |.slice none 0 0=>some .nilS
 |.pointer none=>some (.p (.val (.pointer none)))
 |.nilFunc=>some (.p (.val .nilFunc))
 |.nilIface=>some (.p (.val .nilIface))
 |_=>none
def St.eval (st:St):Operand→Option D
 |.tmp t=>look st.env t
 |.const v=>match zie v with|some c=>some (.v (.one c))|none=>none
 |.func f=>some (.v (.one (.fn f [])))
 |.global _=>none
inductive QR where
 |ok (d:D)
 |need (p:Prop) (r:QR)
 |br (b:Bool) (t f:QR)
 |both (t f:QR)
 |no
def QR.holds:QR→(D→Prop)→Prop
 |.ok d,K=>K d
 |.need p r,K=>p∧r.holds K
 |.br b t f,K=>(b=true→t.holds K)∧(b=false→f.holds K)
 |.both t f,K=>t.holds K∧f.holds K
 |.no,_=>False
def okc (c:C):QR:=.ok (.v (.one c))
def okp (p:P):QR:=.ok (.v (.one (.p p)))
def cont (I:Alg) (hp:List HO):C→Option (Sigma fun u:U=>List u.den)
 |.p (.list u l)=>some ⟨u,l⟩
 |.p (.nl l)=>some ⟨.byte,l⟩
 |.row k=>match nth hp k with|some (.row u _ l)=>some ⟨u,l⟩|_=>none
 |.sub u k lo hi=>match nth hp k with|some (.row u' _ l)=>(match Nat.beq u.size u'.size with|true=>some ⟨u',I.cut l lo hi⟩|false=>none)|_=>none
 |_=>none
def lenQ (I:Alg) (hp:List HO):Ty→C→Option Int
 |.str,.p (.str l)=>some (I.len l)
 |.slice _,.nilS=>some 0
 |.slice _,.sub _ _ lo hi=>some (I.sub hi lo)
 |.slice _,.p (.list _ l)=>some (I.len l)
 |.slice _,.p (.nl l)=>some (I.len l)
 |.slice _,.row k=>match nth hp k with|some (.row _ _ l)=>some (I.len l)|_=>none
 |_,_=>none
def XM:Ty→Bool
 |.struct _|.array .. =>true
 |_=>false
def fetch (e:TE) (cs:List C):QR:=
 match XM e.ty with
 |true=>match Nat.beq cs.length e.size with|true=>.ok (.v (.agg cs))|false=>.no
 |false=>match cs with|[c]=>okc c|_=>.no
def zsR (I:Alg) (hp:List HO) (e:TE):C→QR
 |.ptr k off=>match nth hp k with|some (.obj _ cs)=>fetch e ((cs.drop off).take e.size)|_=>.no
 | .ept u k i off=>match nth hp k with
   |some (.row u' _ l)=>(match Nat.beq u.size u'.size with|true=>.need (I.inb i (I.len l)) (fetch e ((((enc I u' (I.get l (dflt u') i)).map C.p).drop off).take e.size))|false=>.no)
   |_=>.no
 |.fpt u l i off=>.need (I.inb i (I.len l)) (fetch e ((((enc I u (I.get l (dflt u) i)).map C.p).drop off).take e.size))
 |_=>.no
def zc0 (I:Alg) (k:IntKind) (n:Int):QR:=.need (I.inr k n) (okp (.int k n))
def intQ (I:Alg) (op:BinOp) (k:IntKind) (x y:Int):QR:=
 match op with
 |.add=>zc0 I k (I.add x y)
 |.sub=>zc0 I k (I.sub x y)
 |.mul=>zc0 I k (I.mul x y)
 |.quo=>.need (I.nne y) (zc0 I k (I.quo x y))
 |.rem=>.need (I.nne y) (okp (.int k (I.rem x y)))
 |.and=>okp (.int k (I.bits .and k x y))
 |.or=>okp (.int k (I.bits .or k x y))
 |.xor=>okp (.int k (I.bits .xor k x y))
 |.eql=>okp (.bool (I.ieq x y))
 |.neq=>okp (.bool (I.bnot (I.ieq x y)))
 |.lss=>okp (.bool (I.ilt x y))
 |.leq=>okp (.bool (I.ile x y))
 |.gtr=>okp (.bool (I.ilt y x))
 |.geq=>okp (.bool (I.ile y x))
 |_=>.no
def zn0 (I:Alg) (op:BinOp) (k:IntKind) (x y:Int):QR:=
 match op with
 |.shl=>.need (I.nng y) (okp (.int k (I.shl k x y)))
 |.shr=>.need (I.nng y) (.need (I.few y 64) (.need (I.few y k.bits) (okp (.int k (I.shr x y)))))
 |_=>.no
def strQ (I:Alg) (op:BinOp) (x y:Str):QR:=
 match op with
 |.add=>.need (I.few (I.add (I.len x) (I.len y)) 1000000000) (okp (.str (I.app x y)))
 |.eql=>okp (.bool (I.seq x y))
 |.neq=>okp (.bool (I.bnot (I.seq x y)))
 |_=>.no
def ziw:BinOp→Bool
 |.shl|.shr=>true
 |_=>false
def zm5:C→Option Bool
 |.p (.bool b)=>some b
 |.p (.val (.bool b))=>some b
 |_=>none
def binQ (I:Alg) (op:BinOp) (ty:Ty) (x y:C):QR:=
 match x,y with
 |.p (.int k a),.p (.int k' b)=>match ziw op with|true=>zn0 I op k a b|false=>match zga k k' with|true=>intQ I op k a b|false=>.no
 |.p (.str a),.p (.str b)=>strQ I op a b
 | .ptr _ _,.p (.val (.pointer none))=>match ty with
   |.ptr=>(match op with|.eql=>okp (.val (.bool false))|.neq=>okp (.val (.bool true))|_=>.no)
   |_=>.no
 | x,y=>match ty,zm5 x,zm5 y with
   |.bool,some a,some b=>(match op with|.eql=>okp (.bool (I.beq a b))|.neq=>okp (.bool (I.bnot (I.beq a b)))|_=>.no)
   |_,_,_=>.no
def eqC (I:Alg) (ty:Ty) (x y:C):Option Bool:=
 match ty with
 |.str=>(match x,y with|.p (.str a),.p (.str b)=>some (I.seq a b)|_,_=>none)
 |.int _=>(match x,y with|.p (.int k1 a),.p (.int k2 b)=>(match zga k1 k2 with|true=>some (I.ieq a b)|false=>none)|_,_=>none)
 |.bool=>(match zm5 x,zm5 y with|some a,some b=>some (I.beq a b)|_,_=>none)
 |_=>none
def eqFs (I:Alg) (T:Tab) (cs ds:List C):List (Nat × Nat)→Option Bool
 |[]=>none
 | (o, t)::r=>match nth cs o,nth ds o,T t with
   | some c,some d,some e=>(match eqC I e.ty c d with
     | some b=>(match r with
       |[]=>some b
       |_=>match eqFs I T cs ds r with|some b'=>some (I.ban b b')|none=>none)
     |none=>none)
   |_,_,_=>none
def aggQ (I:Alg) (T:Tab) (op:BinOp) (ty:Ty) (cs ds:List C):QR:=
 match ty with
 | .struct fs=>(match TG T fs,eqFs I T cs ds fs with
   |true,some b=>(match op with|.eql=>okp (.bool b)|.neq=>okp (.bool (I.bnot b))|_=>.no)
   |_,_=>.no)
 |_=>.no
def zmA (i:Int):Option Nat:=match i with|.ofNat n=>some n|.negSucc _=>none
def zbX (I:Alg) (hp:List HO) (ty:Ty) (sz:Nat) (c:C) (lo hi:Option Int):QR:=
 match ty,c with
 | .str,.p (.str l)=>
   let a:=lo.getD 0;let b:=hi.getD (I.len l)
   .need (I.cutb a b (I.len l)) (okp (.str (I.cut l a b)))
 | .slice _,.p (.list u l)=>
   let a:=lo.getD 0;let b:=hi.getD (I.len l)
   match Nat.beq sz u.size with|true=>.need (I.cutb a b (I.len l)) (okp (.list u (I.cut l a b)))|false=>.no
 | .slice _,.row k=>match nth hp k with
   | some (.row u _ l)=>
     let a:=lo.getD 0;let b:=hi.getD (I.len l)
     match Nat.beq sz u.size with|true=>.need (I.cutb a b (I.len l)) (okc (.sub u k a b))|false=>.no
   |_=>.no
 | .slice _,.sub u k a0 b0=>
   let a:=lo.getD 0;let b:=hi.getD (I.sub b0 a0)
   match Nat.beq sz u.size with|true=>.need (I.cutb a b (I.sub b0 a0)) (okc (.sub u k (I.add a0 a) (I.add a0 b)))|false=>.no
 | .slice _,.nilS=>
   let a:=lo.getD 0;let b:=hi.getD 0
   match Nat.blt 0 sz with|true=>.need (I.cutb a b 0) (okc .nilS)|false=>.no
 | .array n _,.ept u k i0 off=>match nth hp k,zmA i0,off with
   | some (.row u' _ l),some 0,0=>
     let a:=lo.getD 0;let b:=hi.getD (Int.ofNat n)
     (match Nat.beq sz u.size,Nat.beq u.size u'.size,Nat.blt 0 n,Nat.ble n 1000000 with
     |true,true,true,true=>.need (I.cutb a b (Int.ofNat n)) (.need (I.same (I.len l) (Int.ofNat n)) (okc (.sub u k a b)))
     |_,_,_,_=>.no)
   |_,_,_=>.no
 |_,_=>.no
def zcs (I:Alg) (T:Tab) (hp:List HO) (ty:Ty) (c:C) (i:Int):QR:=
 match ty with
 | .array n e=>match c,zmA i,T e with
   |.ptr k off,some j,some te=>(match Nat.blt j n with|true=>okc (.ptr k (off+j * te.size))|false=>.no)
   |.ept u k i0 off,_,some te=>(match Nat.beq te.size u.size,zmA i0,off with|true,some 0,0=>.need (I.inb i (Int.ofNat n)) (okc (.ept u k i 0))|_,_,_=>.no)
   |_,_,_=>.no
 | .slice e=>match T e with
   |none=>.no
   | some te=>match c with
     |.p (.list u l)=>(match Nat.beq te.size u.size with|true=>.need (I.inb i (I.len l)) (okc (.fpt u l i 0))|false=>.no)
     |.row k=>(match nth hp k with|some (.row u _ l)=>(match Nat.beq te.size u.size with|true=>.need (I.inb i (I.len l)) (okc (.ept u k i 0))|false=>.no)|_=>.no)
     |.sub u k lo hi=>(match nth hp k with|some (.row u' _ _)=>(match Nat.beq te.size u.size,Nat.beq u.size u'.size with|true,true=>.need (I.inb i (I.sub hi lo)) (okc (.ept u k (I.add lo i) 0))|_,_=>.no)|_=>.no)
     |_=>.no
 |_=>.no
def zuE (T:Tab) (ty:Ty) (f:Nat) (cs:List C):QR:=
 match ty with
 | .struct fs=>match nth fs f with
   |some (off,t)=>(match T t with|some e=>fetch e ((cs.drop off).take e.size)|none=>.no)
   |none=>.no
 |_=>.no
def zyk (I:Alg) (T:Tab) (hp:List HO) (src dst:Ty) (c:C):QR:=
 match dst,c with
 |.int k,.p (.int _ n)=>okp (.int k (I.wrap k n))
 |.str,.p (.str s)=>okp (.str s)
 | .str,c=>match src with
   | .slice e=>match T e with
     |some ⟨.int .u8,_,_,_,_⟩=>(match cont I hp c with|some ⟨.byte,l⟩=>okp (.str l)|_=>match c with|.nilS=>okp (.str [])|_=>.no)
     |_=>.no
   |_=>.no
 |_,_=>.no
def lay:List C→Nat→List C→List C
 |cs,_,[]=>cs
 |cs,o,d::ds=>lay (cs.set o d) (o+1) ds
def cellsOf:D→Option (List C)
 |.v (.one c)=>some [c]
 |.v (.agg cs)=>some cs
 |_=>none
def layAll (place:Nat→Option (Nat × Nat)):List C→List (Nat × Option D)→Option (List C)
 |cs,[]=>some cs
 | cs,(i,d)::r=>match place i,d with
   | some (o,n),some d=>(match cellsOf d with
     |some ds=>(match Nat.beq ds.length n,Nat.ble (o+n) cs.length with|true,true=>layAll place (lay cs o ds) r|_,_=>none)
     |none=>none)
   |_,_=>none
def places (T:Tab):List (Nat × Nat)→Option (List (Nat × Nat))
 |[]=>some []
 |(o,t)::r=>match T t,places T r with|some te,some l=>some ((o,te.size)::l)|_,_=>none
def zuS (T:Tab) (e:TE) (parts:List (Nat × Option D)):QR:=
 match e.zero with
 |none=>.no
 | some z=>match e.ty with
   | .struct fs=>(match places T fs with
     |some pl=>(match layAll (nth pl) (z.map zc) parts with|some cs=>.ok (.v (.agg cs))|none=>.no)
     |none=>.no)
   | .array _ el=>(match T el with
     |some te=>(match layAll (fun i=>some (i * te.size,te.size)) (z.map zc) parts with|some cs=>.ok (.v (.agg cs))|none=>.no)
     |none=>.no)
   |_=>.no
def oneC:Option D→Option C
 |some (.v (.one c))=>some c
 |_=>none
def intC:Option D→Option Int
 |some (.v (.one (.p (.int _ n))))=>some n
 |_=>none
def nilP (I:Alg) (hp:List HO) (c:C) (yes no:Bool):QR:=
 match c with
 |.nilS=>okp (.val (.bool yes))
 | c=>match cont I hp c with
   |some ⟨_,l⟩=>.br (I.ieq (I.len l) 0) (.both (okp (.val (.bool yes))) (okp (.val (.bool no)))) (okp (.val (.bool no)))
   |none=>.no
def nilQ (I:Alg) (hp:List HO) (op:BinOp) (ty:Ty) (c:C):QR:=
 match ty,op with
 |.slice _,.eql=>nilP I hp c true false
 |.slice _,.neq=>nilP I hp c false true
 |_,_=>.no
def zpN:Operand→Bool
 |.const .nilIface=>true
 |_=>false
def zuk (op:BinOp) (ty:Ty) (c:C):QR:=
 match ty,c,op with
 |.iface,.ifc _ _ _,.eql=>okp (.val (.bool false))
 |.iface,.ifc _ _ _,.neq=>okp (.val (.bool true))
 |.iface,.p (.val .nilIface),.eql=>okp (.val (.bool true))
 |.iface,.p (.val .nilIface),.neq=>okp (.val (.bool false))
 |_,_,_=>.no
def zro (t:Nat) (ty:Ty) (c:C):QR:=
 match ty with
 |.int _=>(match c with|.ifc t' false [p]=>(match Nat.beq t' t with|true=>.ok (.tup [.one (.p p),.one (.p (.val (.bool true)))])|false=>.no)|_=>.no)
 |.struct _=>(match c with|.ifc t' true ps=>(match Nat.beq t' t with|true=>.ok (.tup [.agg (ps.map C.p),.one (.p (.val (.bool true)))])|false=>.no)|_=>.no)
 |_=>.no
def qop (I:Alg) (T:Tab) (st:St):Op→QR
 |.move x=>match st.eval x with|some d=>.ok d|none=>.no
 |.assign x=>match st.eval x with|some d=>.ok d|none=>.no
 | .pick c a b=>match oneC (st.eval c) with
   |some (.p (.val (.bool true)))=>(match st.eval a with|some d=>.ok d|none=>.no)
   |some (.p (.val (.bool false)))=>(match st.eval b with|some d=>.ok d|none=>.no)
   |_=>.no
 |.load t x=>match T t,oneC (st.eval x) with|some e,some c=>zsR I st.hp e c|_,_=>.no
 | .nilCheck x=>match st.eval x with
   |some (.v (.one (.ptr k o)))=>okc (.ptr k o)
   |some (.v (.one (.ept u k i o)))=>okc (.ept u k i o)
   |some (.v (.one (.fpt u l i o)))=>okc (.fpt u l i o)
   |some (.v (.one (.fn f caps)))=>okc (.fn f caps)
   |_=>.no
 |.typeAssert x _ t true=>match T t,oneC (st.eval x) with|some e,some c=>zro t e.ty c|_,_=>.no
 | .binOp op t x y _=>match zpN y with
  |true=>(match T t,oneC (st.eval x) with|some e,some c=>zuk op e.ty c|_,_=>.no)
  |false=>match T t,oneC (st.eval x),oneC (st.eval y) with
   |some e,some a,some .nilS=>nilQ I st.hp op e.ty a
   |some e,some a,some b=>binQ I op e.ty a b
   |some e,none,none=>(match st.eval x,st.eval y with|some (.v (.agg cs)),some (.v (.agg ds))=>aggQ I T op e.ty cs ds|_,_=>.no)
   |_,_,_=>.no
 | .unOp op _ x=>match op,oneC (st.eval x) with
   |.not,some (.p (.bool b))=>okp (.bool (I.bnot b))
   |.not,some (.p (.val (.bool true)))=>okp (.val (.bool false))
   |.not,some (.p (.val (.bool false)))=>okp (.val (.bool true))
   |.neg,some (.p (.int k n))=>zc0 I k (I.sub 0 n)
   |_,_=>.no
 |.convert s d x=>match T s,T d,oneC (st.eval x) with|some es,some ed,some c=>zyk I T st.hp es.ty ed.ty c|_,_,_=>.no
 | .makeInterface t x=>match T t,st.eval x with
   | some e,some d=>(match e.ty with
     |.other=>.no
     |.iface=>.no
     | _=>match d with
       |.v (.one c)=>(match e.zero with|some z=>(match qC z [c] with|some [p]=>okc (.ifc t false [p])|_=>.no)|none=>.no)
       |.v (.agg cs)=>(match e.zero with|some z=>(match qC z cs with|some ps=>okc (.ifc t true ps)|none=>.no)|none=>.no)
       |_=>.no)
   |_,_=>.no
 | .slice t x lo hi none=>match T t,oneC (st.eval x) with
   | some e,some c=>
     let sz:=match e.ty with|.slice el=>(match T el with|some te=>te.size|none=>0)|.array _ el=>(match T el with|some te=>te.size|none=>0)|_=>0
     match lo,hi with
      |none,none=>zbX I st.hp e.ty sz c none none
      |some l,none=>(match intC (st.eval l) with|some n=>zbX I st.hp e.ty sz c (some n) none|none=>.no)
      |none,some h=>(match intC (st.eval h) with|some n=>zbX I st.hp e.ty sz c none (some n)|none=>.no)
      |some l,some h=>(match intC (st.eval l),intC (st.eval h) with|some n,some m=>zbX I st.hp e.ty sz c (some n) (some m)|_,_=>.no)
   |_,_=>.no
 | .slice t x none (some h) (some m)=>match T t,oneC (st.eval x),intC (st.eval h),intC (st.eval m) with
   | some e,some (.row k),some n',some m'=>(match e.ty,nth st.hp k with
     | .slice el,some (.row u _ l)=>(match T el with
       | some te=>(match Nat.beq te.size u.size with
         |true=>.need (I.same n' m') (.need (I.cutb 0 n' (I.len l)) (okc (.sub u k 0 n')))
         |false=>.no)
       |none=>.no)
     |_,_=>.no)
   |_,_,_,_=>.no
 | .fieldAddr t x f=>match T t,oneC (st.eval x) with
   | some e,some c=>(match e.ty with
     | .struct fs=>(match nth fs f with
       | some (o,tf)=>(match T tf with
         | some te=>(match Nat.blt 0 te.size,c with
           |true,.ptr k off=>okc (.ptr k (off+o))
           |true,.ept u k i off=>okc (.ept u k i (off+o))
           |true,.fpt u l i off=>okc (.fpt u l i (off+o))
           |_,_=>.no)
         |none=>.no)
       |none=>.no)
     |_=>.no)
   |_,_=>.no
 | .field t x f=>match T t,st.eval x with
   |some e,some (.v (.agg cs))=>zuE T e.ty f cs
   |_,_=>.no
 |.indexAddr t x i=>match T t,oneC (st.eval x),intC (st.eval i) with|some e,some c,some n=>zcs I T st.hp e.ty c n|_,_,_=>.no
 | .index t x i=>match T t,st.eval x,intC (st.eval i) with
   |some e,some (.v (.one (.p (.str l)))),some n=>(match e.ty with|.str=>.need (I.inb n (I.len l)) (okp (.int .u8 (I.b2i (I.get l 0 n))))|_=>.no)
   |_,_,_=>.no
 | .extract x i=>match st.eval x with
   |some (.tup l)=>(match nth l i with|some v=>.ok (.v v)|none=>.no)
   |_=>.no
 |.build t parts=>match T t with|some e=>zuS T e (parts.toList.map fun p=>(p.1,st.eval p.2))|none=>.no
 | .call c=>match c.callee,c.args.toList with
   |.builtin .len,[x]=>(match oneC (st.eval x),c.argTypes.toList with|some v,[t]=>(match T t with|some e=>(match lenQ I st.hp e.ty v with|some n=>okp (.int .i64 n)|none=>.no)|none=>.no)|_,_=>.no)
   |.builtin .cap,[x]=>(match oneC (st.eval x),c.argTypes.toList with|some .nilS,[t]=>(match T t with|some ⟨.slice _,_,_,_,_⟩=>okp (.int .i64 0)|_=>.no)|_,_=>.no)
   |.builtin .min,[x,y]=>(match oneC (st.eval x),oneC (st.eval y) with|some (.p (.int k a)),some (.p (.int k' b))=>(match zga k k' with|true=>okp (.int k (I.imin a b))|false=>.no)|_,_=>.no)
   |.builtin .max,[x,y]=>(match oneC (st.eval x),oneC (st.eval y) with|some (.p (.int k a)),some (.p (.int k' b))=>(match zga k k' with|true=>okp (.int k (I.imax a b))|false=>.no)|_,_=>.no)
   |_,_=>.no
 |_=>.no
end Go.Ab
namespace Go.Ab
open Go Go.Sep
variable [Facts]
structure Sit (Pr:Program) (T:Tab) (S:Frz) (K:List CO) (fr:List Chunk) (st:St) (a:Act) (w:World):Prop where
 tab:T.fits Pr
 hr:HR S (K.map CO.base) st.hp K
 at_:At w (frzC S::(CO.zy K++fr))
 env:Env S (K.map CO.base) st a
theorem zjg (c:UInt8):alg.b2i c=(c.toNat:Int):=rfl
theorem zry (n:Int):alg.i2b n=UInt8.ofNat n.toNat:=rfl
theorem uh (x y:Int):alg.add x y=x+y:=rfl
theorem ZK (x y:Int):alg.sub x y=x - y:=rfl
theorem zje (x y:Int):alg.mul x y=x * y:=rfl
theorem zjd (x y:Int):alg.quo x y=x.tdiv y:=rfl
theorem zjc (x y:Int):alg.rem x y=x.tmod y:=rfl
theorem zeZ (k:IntKind) (n:Int):alg.wrap k n=k.wrap n:=rfl
theorem ze1 (x y:Int):alg.imin x y=if x≤y then x else y:=rfl
theorem ze2 (x y:Int):alg.imax x y=if x≤y then y else x:=rfl
theorem ZN (x y:Int):alg.ilt x y=decide (x<y):=rfl
theorem ze3 (x y:Int):alg.ile x y=decide (x≤y):=rfl
theorem YA (x y:Int):alg.ieq x y=(x == y):=rfl
theorem su (b:Bool):alg.bnot b= !b:=rfl
theorem zbz (a b:Bool):alg.beq a b=(a == b):=rfl
theorem zjf (a b:Bool):alg.ban a b=(a&&b):=rfl
theorem Ti (a b:Str):alg.seq a b=(a == b):=rfl
theorem zN {α:Type} (l:List α):alg.len l=(l.length:Int):=rfl
theorem ZP {α:Type} (x y:List α):alg.app x y=x++y:=rfl
theorem ug {α:Type} (l:List α) (a b:Int):alg.cut l a b=(l.drop a.toNat).take (b.toNat - a.toNat):=rfl
theorem ze4 {α:Type} (l:List α) (d:α) (i:Int):alg.get l d i=l.getD i.toNat d:=rfl
theorem zjb {α:Type} (l:List α) (i:Int) (x:α):alg.set l i x=l.set i.toNat x:=rfl
theorem zby {α:Type} (n:Int) (x:α):alg.rep n x=List.replicate n.toNat x:=rfl
theorem XV (k:IntKind) (n:Int):alg.inr k n=(k.min≤n∧n≤k.max):=rfl
theorem ZM (i n:Int):alg.inb i n=(0≤i∧i<n):=rfl
theorem Uh (l h n:Int):alg.cutb l h n=(0≤l∧l≤h∧h≤n):=rfl
theorem ZL {α:Type} (x y:α):alg.same x y=(x=y):=rfl
theorem ZO (n m:Int):alg.few n m=(n≤m):=rfl
theorem ze0 (n:Int):alg.nne n=(n≠0):=rfl
theorem Tj (n:Int):alg.nng n=(0≤n):=rfl
section
variable {Pr:Program} {T:Tab} {S:Frz} {K:List CO} {fr:List Chunk} {st:St} {a:Act} {w:World} {W:World→Prop}
def Yields (Pr:Program) (a:Act) (W:World→Prop) (o:Oper) (v:Value):Prop:=∀ w,W w→(execOp a.eval o).run Pr w=.ok (.value v) w
def Cls (S:Frz) (K:List CO) (W:World→Prop):Prop:=∀ w,W w→∃ S' fr,S.le S'∧At w (frzC S'::(CO.zy K++fr))
theorem Tab.get (h:T.fits Pr) {t:Nat} {e:TE} (he:T t=some e):e.fits Pr T t=true:=h t e he
theorem TE.und {t:Nat} {e:TE} (h:e.fits Pr T t=true): ∃ d i,Pr.underlying t=some d∧Pr.info? t=some i∧e.ty.fits d=true∧i.size=e.size∧i.bytes=e.bytes:=by
 unfold TE.fits at h
 split at h
 · rename_i d i h1 h2
   simp only [jK,beq_iff_eq] at h;exact⟨d,i,h1,h2,h.1.1.1.1.2,h.1.1.1.2,h.1.1.2⟩
 · cases h
theorem TE.eqs {t:Nat} {e:TE} (h:e.fits Pr T t=true) {fs:List (Nat × Nat)} (hty:e.ty=.struct fs) (hp:TG T fs=true) {gs:Array Field} (hu:Pr.underlying t=some (.struct gs)):(∀ f ∈ gs.toList,f.name≠ "_")∧Pr.stoodInHeld t=false:=by
 unfold TE.fits at h
 split at h
 · rename_i d i h1 h2
   simp only [jK,beq_iff_eq] at h;have h3:=h.1.1.1.1.1;rw [hu] at h1;cases h1;rw [hty] at h3;simp only [zuL,hp,Bool.not_true,Bool.false_or,jK,List.all_eq_true,Bool.not_eq_true'] at h3
   exact⟨fun f hf=>by simpa using h3.1 f hf,h3.2⟩
 · cases h
theorem TE.size' {t:Nat} {e:TE} (h:e.fits Pr T t=true):(Pr.info? t).map (·.size)=some e.size:=by
 obtain⟨d,i,_,h2,_,h4,_⟩:=TE.und h;rw [h2,← h4];rfl
theorem TE.zero' {t:Nat} {e:TE} (h:e.fits Pr T t=true) {z:List P} (hz:e.zero=some z): ∃ i v,Pr.info? t=some i∧i.zero=some v∧yH v.cells.toList z=true∧z.length=e.size:=by
 unfold TE.fits at h
 split at h
 · rename_i d i h1 h2
   simp only [jK,beq_iff_eq,hz] at h;have h3:=h.1.2
   split at h3
   · rename_i v hv;simp only [jK,beq_iff_eq] at h3;exact⟨i,v,h2,hv,h3.1,h3.2⟩
   · cases h3
 · cases h
theorem TE.elem {t:Nat} {e:TE} (h:e.fits Pr T t=true) {u:U} (hu:e.u=some u): ∃ el ee,e.ty=.slice el∧T el=some ee∧ee.size=u.size∧0<u.size:=by
 unfold TE.fits at h
 split at h
 · rename_i d i h1 h2
   simp only [jK,hu] at h;have h3:=h.2
   split at h3
   · rename_i el hel
     split at h3
     · rename_i ee hee;simp only [jK,beq_iff_eq,decide_eq_true_eq] at h3;exact⟨el,ee,hel,hee,h3.1,h3.2⟩
     · cases h3
   · cases h3
 · cases h
theorem zW {e:Nat} {d:TypeDesc} (h:(Ty.slice e).fits d=true):d=.slice e:=by
 cases d<;>simp [Ty.fits] at h
 rw [h]
theorem Zz {d:TypeDesc} (h:Ty.str.fits d=true):d=.string:=by cases d<;>simp [Ty.fits] at h;rfl
theorem fits_bool {d:TypeDesc} (h:Ty.bool.fits d=true):d=.bool:=by cases d<;>simp [Ty.fits] at h;rfl
theorem ztp {d:TypeDesc} (h:Ty.ptr.fits d=true): ∃ e,d=.pointer e:=by cases d<;>simp [Ty.fits] at h;exact⟨_,rfl⟩
theorem fits_int {k:IntKind} {d:TypeDesc} (h:(Ty.int k).fits d=true):d=.int k:=by
 cases d<;>simp [Ty.fits] at h
 rw [tX h]
theorem sZ {fs:List (Nat × Nat)} {d:TypeDesc} (h:(Ty.struct fs).fits d=true): ∃ gs,d=.struct gs∧gs.toList.map (fun f=>(f.offset,f.type))=fs:=by
 cases d<;>simp [Ty.fits] at h
 exact⟨_,rfl,h⟩
theorem U2 {n e:Nat} {d:TypeDesc} (h:(Ty.array n e).fits d=true):d=.array n e:=by
 cases d<;>simp [Ty.fits] at h
 rw [h.1,h.2]
theorem zld {ty:Ty} {d:TypeDesc} (h:ty.fits d=true) (hr:XM ty=true):d.isRow=true:=by
 cases ty<;>simp [XM] at hr<;>cases d<;>simp [Ty.fits] at h<;>rfl
theorem Vd {v:Value} {c:C} (h:zie v=some c) (bs:List Value):MC S bs c v:=by
 unfold zie at h
 split at h<;>try(simp at h;done)
 · cases h;exact .int _ _
 · cases h;exact .val _ rfl
 · cases h;exact .val _ rfl
 · rename_i s
   split at h
   · rename_i hs
     rw [zq1] at h;cases h
     have h1:s.data.toList.length≤100000:=by simpa using hs
     have:=MP.str (S:=S) s.data.toList (by unfold maxLen;omega)
     rw [S_of] at this;exact this
   · cases h
 · cases h;rfl
 · cases h;exact .val _ rfl
 · cases h;exact .val _ rfl
 · cases h;exact .val _ rfl
theorem Sit.eval (h:Sit Pr T S K fr st a w) {x:Operand} {d:D} (hx:st.eval x=some d):MD S (K.map CO.base) d (a.eval x):=by
 cases x with
 |tmp t=>exact h.env.slots t d hx
 | const v=>
   simp only [St.eval] at hx
   split at hx
   · rename_i c hc;cases hx;exact Vd hc _
   · cases hx
 |func f=>simp only [St.eval,jw] at hx;subst hx;exact⟨[],trivial,rfl⟩
 |global g=>cases hx
theorem Sit.one (h:Sit Pr T S K fr st a w) {x:Operand} {c:C} (hx:oneC (st.eval x)=some c):MC S (K.map CO.base) c (a.eval x):=by
 unfold oneC at hx
 split at hx
 · rename_i c' hc;cases hx;exact h.eval hc
 · cases hx
theorem Sit.int (h:Sit Pr T S K fr st a w) {x:Operand} {n:Int} (hx:intC (st.eval x)=some n): ∃ k,a.eval x=.int k n:=by
 unfold intC at hx
 split at hx
 · rename_i k n' hc;cases hx;have:=h.eval hc;generalize a.eval x=v at this;cases this;exact⟨_,rfl⟩
 · cases hx
theorem Xk: ∀ {K:List CO} {k:Nat} {c:CO},K[k]? =some c→(CO.zy K)[k]? =some c.chunk:=by
 intro K k c h;rw [CO.Yy];simp [h]
theorem Sit.chunk (h:Sit Pr T S K fr st a w) {k:Nat} {c:CO} (hc:K[k]? =some c): ∃ l,At w (c.chunk::l):=by
 have h1:=h.at_.tail;have hlt:=(jl.1 (Xk hc)).1
 exact⟨_,h1.pull k c.chunk (by rw [jy hlt];exact Xk hc)⟩
theorem Cls.chunk (h:Cls S K W) (hw:W w) {k:Nat} {c:CO} (hc:K[k]? =some c): ∃ l,At w (c.chunk::l):=by
 obtain⟨S',fr,_,h⟩:=h w hw;have h1:=h.tail;have hlt:=(jl.1 (Xk hc)).1
 exact⟨_,h1.pull k c.chunk (by rw [jy hlt];exact Xk hc)⟩
theorem Cls.on (h:Cls S K W) (hw:W w):S.on w:=by
 obtain⟨S',fr,hle,h⟩:=h w hw;exact(At.frz h).mono hle
theorem Sit.on (h:Sit Pr T S K fr st a w):S.on w:=At.frz h.at_
theorem Sit.obj (h:Sit Pr T S K fr st a w) {k ty:Nat} {cs:List C} (ho:st.hp[k]? =some (.obj ty cs)): ∃ b vs l,K[k]? =some (.obj b ty vs)∧MCs S (K.map CO.base) cs vs∧At w (objC b ty vs::l):=by
 obtain⟨c,hc,hr⟩:=h.hr.get ho
 cases hr with
 |obj hm=>obtain⟨l,hl⟩:=h.chunk hc;exact⟨_,_,l,hc,hm,hl⟩
theorem Sit.row (h:Sit Pr T S K fr st a w) {k E:Nat} {u:U} {l:List u.den} (ho:st.hp[k]? =some (.row u E l)): ∃ ao cap vs,K[k]? =some (.row E u.size ao l.length cap vs)∧vs.length=l.length * u.size∧
  (∀ (i:Nat) (x:u.den) (j:Nat) (p:P) (v:Value),l[i]? =some x→(enc alg u x)[j]? =some p→vs[i * u.size+j]? =some v→MP S p v)∧Rd w u.size (.slice ao l.length cap) l.length vs:=by
 obtain⟨c,hc,hr⟩:=h.hr.get ho
 cases hr with
 |row hlen hx=>obtain⟨l',hl⟩:=h.chunk hc;exact⟨_,_,_,hc,hlen,hx,At.rd hl⟩
theorem zL {k:Nat} {c:CO} (h:K[k]? =some c):(K.map CO.base)[k]? =some c.base:=by simp [h]
theorem U7 {S:Frz} {u:U} {l:List u.den} {vs:List Value} (hlen:vs.length=l.length * u.size)
  (hx: ∀ (i:Nat) (x:u.den) (j:Nat) (p:P) (v:Value),l[i]? =some x→(enc alg u x)[j]? =some p→vs[i * u.size+j]? =some v→MP S p v) {i:Int} (hi:alg.inb i (alg.len l)):
  MPs S (enc alg u (alg.get l (dflt u) i)) ((vs.drop (i.toNat * u.size)).take u.size)∧((vs.drop (i.toNat * u.size)).take u.size).length=u.size:=by
 rw [ZM,zN] at hi;rw [ze4]
 have h1:i.toNat<l.length:=by omega
 have h2:i.toNat * u.size+u.size≤vs.length:=by
  rw [hlen,← Nat.succ_mul];exact Nat.mul_le_mul_right _ h1
 have h3:((vs.drop (i.toNat * u.size)).take u.size).length=u.size:=by simp;omega
 refine⟨MPs.zci (by rw [h3];exact(xO alg u _).symm) fun j p v hp hv=> ?_,h3⟩
 rw [jD] at hv
 split at hv
 · rw [jG] at hv
   refine hx i.toNat _ j p v (jm h1) ?_ hv
   simpa [h1] using hp
 · cases hv
theorem zbm {e:TE} {cs:List C} {vs:List Value} {Q:D→Prop} (h:(fetch e cs).holds Q) (hm:MCs S (K.map CO.base) cs vs):
  (XM e.ty=true∧cs.length=e.size∧Q (.v (.agg cs)))∨(XM e.ty=false∧∃ c v,cs=[c]∧vs=[v]∧MC S (K.map CO.base) c v∧Q (.v (.one c))):=by
 unfold fetch at h
 split at h
 · rename_i hr
   split at h
   · rename_i hl;exact .inl ⟨hr,jI hl,h⟩
   · exact h.elim
 · rename_i hr
   split at h
   · rename_i c
     cases vs with
     |nil=>exact hm.elim
     | cons v vs=>cases vs with
       |nil=>exact .inr ⟨hr,c,v,rfl,rfl,hm.1,h⟩
       |cons _ _=>exact hm.2.elim
   · exact h.elim
theorem U1 {ty:Ty} {d:TypeDesc} (h:ty.fits d=true) (hr:XM ty=false):d.isRow=false:=by
 cases ty<;>simp [XM] at hr<;>cases d<;>first|rfl|(simp [Ty.fits] at h;done)|(simpa [Ty.fits] using h)
def yG (Pr:Program) (S:Frz) (K:List CO) (a:Act) (W:World→Prop) (o:Oper) (r:QR):Prop:=
 ∀ Q:D→Prop,r.holds Q→∃ v d,Yields Pr a W o v∧MD S (K.map CO.base) d v∧Q d
variable {dst:Option Tmp} {ty:TypeId} {pos:String} {af:Array Edge} {gd:Option (Nat × Bool)}
theorem zmz (h:Sit Pr T S K fr st a w) (hW:Cls S K W) {t:Nat} {x:Operand}:yG Pr S K a W ⟨dst,.load t x,ty,pos,af,gd⟩ (qop alg T st (.load t x)):=by
 intro Q hq;simp only [qop] at hq
 split at hq
 · rename_i e c he hc
   have hf:=Tab.get h.tab he;obtain⟨d,i,hu,hi,hty,hsz,-⟩:=TE.und hf;have hc':=h.one hc;generalize hx:a.eval x=pv at hc'
   have go: ∀ {cs:List C} {vs:List Value} {p:Addr},p.spot=none→pv=.pointer (some p)→(fetch e cs).holds Q→MCs S (K.map CO.base) cs vs→(∀ w,W w→∀ j v,vs[j]? =some v→w.cell? ⟨p.block,p.off+j,none⟩=some v)→
     ∃ v d,Yields Pr a W ⟨dst,.load t x,ty,pos,af,gd⟩ v∧MD S (K.map CO.base) d v∧Q d:=by
    intro cs vs p hsp hp hq hm hcell;obtain⟨b,o,s⟩:=p;cases hsp
    rcases zbm hq hm with⟨hr,hl,hQ⟩|⟨hr,c1,v1,rfl,rfl,hm1,hQ⟩
    · refine⟨.agg vs.toArray,.v (.agg cs),fun w hw=>ztz hu (zld hty hr) (cs:=vs) ?_ (hx.trans hp) (hcell w hw),⟨vs,hm,rfl⟩,hQ⟩
      rw [TE.size' hf,hm.length,hl]
    · refine⟨v1,.v (.one c1),fun w hw=>zwt hu (U1 hty hr) (hx.trans hp) (hcell w hw 0 v1 rfl),hm1,hQ⟩
   cases c with
   | ptr k off=>
     obtain⟨b,hb,rfl⟩:=hc';simp only [zsR] at hq
     split at hq
     · rename_i T' cs ho
       rw [yg] at ho;obtain⟨b',vs,l,hk,hm,hat⟩:=h.obj ho
       have:b'=b:=by have:=zL hk;rw [this] at hb;simp [CO.base] at hb;exact hb
       subst this;refine go rfl rfl hq (hm.slice off e.size) fun w' hw' j v hj=> ?_;obtain⟨l',hat'⟩:=hW.chunk hw' hk;have:=At.cell (show At w' (objC b' T' vs::l') from hat') (off+j);rw [jD] at hj
       split at hj
       · rw [jG] at hj;rw [this,hj]
       · cases hj
     · exact hq.elim
   | ept u k i off=>
     obtain⟨ao,n,cap,hb,hi0,rfl⟩:=hc';simp only [zsR] at hq
     split at hq
     · rename_i u' E l ho
       split at hq
       · rename_i hus
         have hus:=jI hus;obtain⟨hin,hq⟩:=hq;rw [yg] at ho;obtain⟨ao',cap',vs,hk,hlen,hx',hrd⟩:=h.row ho;have hbk:=zL hk;rw [hbk] at hb;simp only [CO.base,jw,Value.slice.injEq] at hb;obtain⟨rfl,rfl,rfl⟩:=hb;obtain⟨hm,hl2⟩:=U7 hlen hx' hin;refine go rfl rfl hq ((hm.mcs (bs:=K.map CO.base)).slice off e.size) fun w' hw' j v hj=> ?_;obtain⟨l',hat'⟩:=hW.chunk hw' hk;have hrd:=At.rd (show At w' (rowC E u'.size (.slice ao' l.length cap') l.length vs::l') from hat');rw [jD] at hj
         split at hj
         · rw [jG,jD] at hj
           split at hj
           · rw [jG] at hj
             obtain⟨hjl,hje⟩:=jl.1 hj;have:=hrd.cell hjl;rw [hje] at this
             simpa [adr,hus,Nat.add_assoc] using this
           · cases hj
         · cases hj
       · exact hq.elim
     · exact hq.elim
   | fpt u l i off=>
     obtain⟨ao,cap,vs,hlen,hrs,hx',hi0,rfl⟩:=hc';simp only [zsR] at hq;obtain⟨hin,hq⟩:=hq;obtain⟨hm,hl2⟩:=U7 hlen hx' hin;refine go rfl rfl hq ((hm.mcs (bs:=K.map CO.base)).slice off e.size) fun w' hw' j v hj=> ?_;have hrd:=hrs w' (hW.on hw');rw [jD] at hj
     split at hj
     · rw [jG,jD] at hj
       split at hj
       · rw [jG] at hj
         obtain⟨hjl,hje⟩:=jl.1 hj;have:=hrd.cell hjl;rw [hje] at this
         simpa [adr,Nat.add_assoc] using this
       · cases hj
     · cases hj
   |p x=>exact hq.elim
   |row k=>exact hq.elim
   |sub u k lo hi=>exact hq.elim
   |nilS=>exact hq.elim
   |fn f caps=>exact hq.elim
   |ifc T agg cs=>exact hq.elim
   |any=>exact hq.elim
 · exact hq.elim
end
end Go.Ab
namespace Go.Ab
open Go Go.Sep
variable [Facts]
section
variable {Pr:Program} {T:Tab} {S:Frz} {K:List CO} {fr:List Chunk} {st:St} {a:Act} {w:World} {W:World→Prop}
variable {dst:Option Tmp} {ty:TypeId} {pos:String} {af:Array Edge} {gd:Option (Nat × Bool)}
theorem Ul {k:IntKind} {n:Int} (h:alg.inr k n):k.wrap n=n:=by
 rw [XV] at h;obtain⟨h1,h2⟩:=h
 cases k<;>simp [IntKind.min,IntKind.max,IntKind.signed,IntKind.bits] at h1 h2<;>simp [IntKind.wrap,IntKind.signed,IntKind.bits]<;>omega
theorem zms (h:Sit Pr T S K fr st a w) {x:Operand}:yG Pr S K a W ⟨dst,.move x,ty,pos,af,gd⟩ (qop alg T st (.move x)):=by
 intro Q hq;simp only [qop] at hq
 split at hq
 · rename_i d hd;exact⟨_,d,fun _ _=>rfl,h.eval hd,hq⟩
 · exact hq.elim
theorem zhv (h:Sit Pr T S K fr st a w) {x:Operand}:yG Pr S K a W ⟨dst,.assign x,ty,pos,af,gd⟩ (qop alg T st (.assign x)):=by
 intro Q hq;simp only [qop] at hq
 split at hq
 · rename_i d hd;exact⟨_,d,fun _ _=>rfl,h.eval hd,hq⟩
 · exact hq.elim
theorem zmo (h:Sit Pr T S K fr st a w) {c x y:Operand}:yG Pr S K a W ⟨dst,.pick c x y,ty,pos,af,gd⟩ (qop alg T st (.pick c x y)):=by
 intro Q hq;simp only [qop] at hq
 split at hq
 · rename_i hc
   have hb:=h.one hc;generalize hcv:a.eval c=v at hb;cases hb
   split at hq
   · rename_i d hd;exact⟨_,d,by simp [Yields,execOp,hcv,asBool],h.eval hd,hq⟩
   · exact hq.elim
 · rename_i hc
   have hb:=h.one hc;generalize hcv:a.eval c=v at hb;cases hb
   split at hq
   · rename_i d hd;exact⟨_,d,by simp [Yields,execOp,hcv,asBool],h.eval hd,hq⟩
   · exact hq.elim
 · exact hq.elim
theorem zbI (h:Sit Pr T S K fr st a w) {x:Operand}:yG Pr S K a W ⟨dst,.nilCheck x,ty,pos,af,gd⟩ (qop alg T st (.nilCheck x)):=by
 intro Q hq;simp only [qop] at hq
 split at hq
 · rename_i k o hx
   have hm:=h.eval hx;have hm0:=hm;generalize hv:a.eval x=v at hm hm0;obtain⟨b,_,rfl⟩:=hm
   exact⟨_,_,by simp only [Yields,execOp,hv];intro _ _;rfl,hm0,hq⟩
 · rename_i u k i o hx
   have hm:=h.eval hx;have hm0:=hm;generalize hv:a.eval x=v at hm hm0;obtain⟨_,_,_,_,_,rfl⟩:=hm
   exact⟨_,_,by simp only [Yields,execOp,hv];intro _ _;rfl,hm0,hq⟩
 · rename_i u l i o hx
   have hm:=h.eval hx;have hm0:=hm;generalize hv:a.eval x=v at hm hm0;obtain⟨_,_,_,_,_,_,_,rfl⟩:=hm
   exact⟨_,_,by simp only [Yields,execOp,hv];intro _ _;rfl,hm0,hq⟩
 · rename_i f caps hx
   have hm:=h.eval hx;have hm0:=hm;generalize hv:a.eval x=v at hm hm0;obtain⟨_,_,rfl⟩:=hm
   exact⟨_,_,by simp only [Yields,execOp,hv];intro _ _;rfl,hm0,hq⟩
 · exact hq.elim
theorem zA {o:Oper} {p:P} {v:Value} (hy:Yields Pr a W o v) (hm:MP S p v):yG Pr S K a W o (okp p):=fun _ hq=>⟨v,.v (.one (.p p)),hy,hm,hq⟩
theorem zH {o:Oper} {p:Prop} {r:QR} (h:p→yG Pr S K a W o r):yG Pr S K a W o (.need p r):=fun Q hq=>h hq.1 Q hq.2
theorem zq {o:Oper}:yG Pr S K a W o .no:=fun _ hq=>hq.elim
theorem rJ {o:Oper} {k:IntKind} {n:Int} (hy:Yields Pr a W o (.int k (k.wrap n))):yG Pr S K a W o (zc0 alg k n):=
 zH fun hn=>by rw [Ul hn] at hy;exact zA hy (.int _ _)
theorem zwI {t yt:Nat} {x y:Operand} {op:BinOp} {k:IntKind} {m n:Int} (hx:a.eval x=.int k m) (hy:a.eval y=.int k n) (hs:ziw op=false):
  yG Pr S K a W ⟨dst,.binOp op t x y yt,ty,pos,af,gd⟩ (intQ alg op k m n):=by
 cases op<;>simp only [ziw,je] at hs<;>simp only [intQ]
 case add=>exact rJ (by simp [Yields,execOp,hx,hy,eqGuard,binOp,Op.intArith,uh])
 case sub=>exact rJ (by simp [Yields,execOp,hx,hy,eqGuard,binOp,Op.intArith,ZK])
 case mul=>exact rJ (by simp [Yields,execOp,hx,hy,eqGuard,binOp,Op.intArith,zje])
 case quo=>refine zH fun h0=>rJ ?_;rw [ze0] at h0;simp [Yields,execOp,hx,hy,eqGuard,binOp,Op.intDiv,h0,zjd]
 case rem=>refine zH fun h0=>zA (v:=.int k (m.tmod n)) ?_ (.int _ _);rw [ze0] at h0;simp [Yields,execOp,hx,hy,eqGuard,binOp,Op.intDiv,h0]
 case and=>exact zA (v:=.int k (alg.bits .and k m n)) (by simp [Yields,execOp,hx,hy,eqGuard,binOp,Op.intBits,alg]) (.int _ _)
 case or=>exact zA (v:=.int k (alg.bits .or k m n)) (by simp [Yields,execOp,hx,hy,eqGuard,binOp,Op.intBits,alg]) (.int _ _)
 case xor=>exact zA (v:=.int k (alg.bits .xor k m n)) (by simp [Yields,execOp,hx,hy,eqGuard,binOp,Op.intBits,alg]) (.int _ _)
 case eql=>exact zA (v:=.bool (alg.ieq m n)) (by simp [Yields,execOp,hx,hy,eqGuard,binOp,Op.intCmp,YA]) (.bool _)
 case neq=>exact zA (v:=.bool (alg.bnot (alg.ieq m n))) (by simp [Yields,execOp,hx,hy,eqGuard,binOp,Op.intCmp,YA,su,bne]) (.bool _)
 case lss=>exact zA (v:=.bool (alg.ilt m n)) (by simp [Yields,execOp,hx,hy,eqGuard,binOp,Op.intCmp,ZN]) (.bool _)
 case leq=>exact zA (v:=.bool (alg.ile m n)) (by simp [Yields,execOp,hx,hy,eqGuard,binOp,Op.intCmp,ze3]) (.bool _)
 case gtr=>exact zA (v:=.bool (alg.ilt n m)) (by simp [Yields,execOp,hx,hy,eqGuard,binOp,Op.intCmp,ZN]) (.bool _)
 case geq=>exact zA (v:=.bool (alg.ile n m)) (by simp [Yields,execOp,hx,hy,eqGuard,binOp,Op.intCmp,ze3]) (.bool _)
 all_goals exact zq
theorem zri {t yt:Nat} {x y:Operand} {op:BinOp} {k k':IntKind} {m n:Int} (hx:a.eval x=.int k m) (hy:a.eval y=.int k' n):
  yG Pr S K a W ⟨dst,.binOp op t x y yt,ty,pos,af,gd⟩ (zn0 alg op k m n):=by
 cases op<;>simp only [zn0]<;>try exact zq
 · refine zH fun h0=> ?_
   rw [Tj] at h0
   exact zA (v:=.int k (alg.shl k m n)) (by simp [Yields,execOp,hx,hy,eqGuard,binOp,Op.shift,show ¬ n<0 by omega];intro _ _;rfl) (.int _ _)
 · refine zH fun h0=>zH fun h1=>zH fun h2=> ?_
   rw [Tj] at h0;rw [ZO] at h1 h2;refine zA (v:=.int k (alg.shr m n)) ?_ (.int _ _)
   have e1:min n.toNat k.bits=n.toNat:=by omega
   have e2:min n.toNat 64=n.toNat:=by omega
   simp [Yields,execOp,hx,hy,eqGuard,binOp,Op.shift,show ¬ n<0 by omega,e1]
   intro _ _;simp only [alg,e2]
theorem zwH {t yt:Nat} {x y:Operand} {op:BinOp} {m n:Str} (hx:a.eval x=.string (Sep.S m)) (hy:a.eval y=.string (Sep.S n)):
  yG Pr S K a W ⟨dst,.binOp op t x y yt,ty,pos,af,gd⟩ (strQ alg op m n):=by
 cases op<;>simp only [strQ]<;>try exact zq
 · refine zH fun h0=> ?_
   rw [ZO,uh,zN,zN] at h0
   refine zA (v:=.string (Sep.S (alg.app m n))) ?_ (.str _ (by rw [ZP,jk];unfold maxLen;omega))
   simp [Yields,execOp,hx,hy,eqGuard,binOp,Op.stringOp,ztW,ZP]
   omega
 · exact zA (v:=.bool (alg.seq m n)) (by simp [Yields,execOp,hx,hy,eqGuard,binOp,Op.stringOp,Ti]) (.bool _)
 · exact zA (v:=.bool (alg.bnot (alg.seq m n))) (by simp [Yields,execOp,hx,hy,eqGuard,binOp,Op.stringOp,Ti,su]) (.bool _)
theorem ZI {c:C} {b:Bool} {bs:List Value} {v:Value} (h:zm5 c=some b) (hm:MC S bs c v):v=.bool b:=by
 unfold zm5 at h
 split at h
 · cases h;cases hm;rfl
 · cases h;cases hm;rfl
 · cases h
theorem run_equal_bool {t:Nat} (ht:Pr.underlying t=some .bool) (b c:Bool):(Op.equal t (.bool b) (.bool c)).run Pr w=.ok (b == c) w:=by
 unfold Op.equal Op.maxDepth Op.equalIn
 simp [run_underlying ht]
theorem ZT {t e:Nat} (ht:Pr.underlying t=some (.pointer e)) (p:Addr):(Op.equal t (.pointer (some p)) (.pointer none)).run Pr w=.ok false w:=by
 unfold Op.equal Op.maxDepth Op.equalIn
 simp [run_underlying ht]
theorem Ya {t e:Nat} (ht:Pr.underlying t=some (.slice e)) (ao:Option Addr) (n cap:Nat):(Op.equal t (.slice ao n cap) (.slice none 0 0)).run Pr w=.ok ao.isNone w:=by
 unfold Op.equal Op.maxDepth Op.equalIn
 cases ao<;>simp [run_underlying ht]
theorem Sit.zyl (h:Sit Pr T S K fr st a w) {c:C} {v:Value} (hm:MC S (K.map CO.base) c v) {u:U} {l:List u.den} (hc:cont alg st.hp c=some ⟨u,l⟩):
  ∃ ao cap vs,v=.slice ao l.length cap∧l.length≤cap∧vs.length=l.length * u.size∧(∀ W:World→Prop,Cls S K W→∀ w,W w→Rd w u.size v l.length vs)∧
    (∀ (i:Nat) (x:u.den) (j:Nat) (p:P) (v:Value),l[i]? =some x→(enc alg u x)[j]? =some p→vs[i * u.size+j]? =some v→MP S p v):=by
 unfold Ab.cont at hc
 split at hc
 · cases hc
   cases hm with
   | list u l ao cap vs hlen hr hx=>
     have:=hr w h.on;have this2:=this;obtain⟨_,_,e,hnc,_⟩:=this2;cases e;exact⟨ao,cap,vs,rfl,hnc,hlen,fun W hW w hw=>hr w (hW.on hw),hx⟩
 · cases hc
   cases hm with
   | nl l v h0 hm=>cases hm with
     | list u l ao cap vs hlen hr hx=>
       have:=hr w h.on;have this2:=this;obtain⟨_,_,e,hnc,_⟩:=this2;cases e;exact⟨ao,cap,vs,rfl,hnc,hlen,fun W hW w hw=>hr w (hW.on hw),hx⟩
 · rename_i k
   split at hc
   · rename_i ho
     cases hc;rw [yg] at ho;obtain⟨ao,cap,vs,hk,hlen,hx,hrd⟩:=h.row ho;have hb:=hm.1;rw [zL hk] at hb;cases hb;have this2:=hrd;obtain⟨_,_,e,hnc,_⟩:=this2;cases e
     exact⟨ao,cap,vs,rfl,hnc,hlen,fun W hW w hw=>by obtain⟨l,hl⟩:=hW.chunk hw hk;exact At.rd hl,hx⟩
   · cases hc
 · rename_i u0 k lo hi
   split at hc
   · rename_i u' E l' ho
     split at hc
     · rename_i hus
       have hus:=jI hus;cases hc;rw [yg] at ho;obtain⟨ao,cap,vs,hk,hlen,hx,hrd⟩:=h.row ho;obtain⟨ao',n',cap',hb,h0,h00,hsub⟩:=hm;rw [zL hk] at hb;simp only [CO.base,jw,Value.slice.injEq] at hb;obtain⟨rfl,rfl,rfl⟩:=hb;rw [hus] at hsub;have hsub0:=hsub;have hs:=hsub.rd hrd;obtain⟨ao2,cap2,e,h1,h2,hnc,-⟩:=hsub
       have hn:(alg.cut l' lo hi).length=hi.toNat - lo.toNat:=by rw [ug];simp;omega
       have hl2:=hs.len
       have hsW: ∀ W:World→Prop,Cls S K W→∀ w,W w→Rd w u.size v (hi.toNat - lo.toNat) ((vs.drop (lo.toNat * u.size)).take ((hi.toNat - lo.toNat) * u.size)):=fun W hW w hw=>by
        obtain⟨l,hl⟩:=hW.chunk hw hk;exact hsub0.rd (At.rd hl)
       rw [← hn] at hs e hnc hl2 hsW;refine⟨ao2,cap2,_,e,hnc,hl2,hsW,fun i x j p v hi' hj hv=> ?_⟩;rw [ug,jD] at hi'
       split at hi'
       · rename_i hlt
         rw [jG] at hi';refine hx (lo.toNat+i) x j p v hi' hj ?_;rw [jD] at hv
         split at hv
         · rw [jG] at hv
           rw [← hv]
           congr 1
           rw [Nat.add_mul];omega
         · cases hv
       · cases hi'
     · cases hc
   · cases hc
 · cases hc
theorem Sit.cls (h:Sit Pr T S K fr st a w):Cls S K fun w'=>w'=w:=fun _ e=>by cases e;exact⟨S,fr,Frz.le.refl S,h.at_⟩
theorem Sit.cont (h:Sit Pr T S K fr st a w) {c:C} {v:Value} (hm:MC S (K.map CO.base) c v) {u:U} {l:List u.den} (hc:cont alg st.hp c=some ⟨u,l⟩):
  ∃ ao cap vs,v=.slice ao l.length cap∧l.length≤cap∧vs.length=l.length * u.size∧Rd w u.size v l.length vs∧
    (∀ (i:Nat) (x:u.den) (j:Nat) (p:P) (v:Value),l[i]? =some x→(enc alg u x)[j]? =some p→vs[i * u.size+j]? =some v→MP S p v):=by
 obtain⟨ao,cap,vs,h1,h2,h3,h4,h5⟩:=h.zyl hm hc;exact⟨ao,cap,vs,h1,h2,h3,h4 _ h.cls w rfl,h5⟩
theorem zkv (h:Sit Pr T S K fr st a w) {o:Oper} {c:C} {v:Value} (hm:MC S (K.map CO.base) c v) (pos:Bool) (hy: ∀ ao n cap,v=.slice ao n cap→Yields Pr a W o (.bool (if pos then ao.isNone else !ao.isNone))):
  yG Pr S K a W o (nilP alg st.hp c pos !pos):=by
 unfold nilP
 split
 · have hm:v=.slice none 0 0:=by assumption
   have:=hy none 0 0 hm
   exact zA (v:=.bool pos) (by simpa using this) (.val _ rfl)
 · split
   · rename_i u l hc
     obtain⟨ao,cap,vs,rfl,hnc,hlen,hrd,hxs⟩:=h.cont hm hc;have hy:=hy ao _ cap rfl;intro Q hq;obtain⟨h1,h2⟩:=hq
     cases ao with
     | none=>
       obtain⟨_,_,e,_,_,h0,_⟩:=hrd;cases e;have h0:=h0 rfl
       have hl0:l.length=0:=by omega
       have:=(h1 (by rw [YA,zN,hl0];rfl)).1
       exact zA (v:=.bool pos) (by simpa using hy) (.val _ rfl) Q this
     | some ad=>
       have:(okp (.val (.bool !pos))).holds Q:=by
        cases hb:alg.ieq (alg.len l) 0 with
        |true=>exact(h1 hb).2
        |false=>exact h2 hb
       exact zA (v:=.bool !pos) (by cases pos<;>simpa using hy) (.val _ rfl) Q this
   · exact zq
theorem zqF {S:Frz} {bs:List Value} {ty:Ty} {d:TypeDesc} {t:Nat} (hu:Pr.underlying t=some d) (hf:ty.fits d=true) {x y:C} {v u:Value} {b:Bool} (h:eqC alg ty x y=some b) (hx:MC S bs x v) (hy:MC S bs y u) (w:World) (D:Nat):
  (Op.equalIn (D+1) t v u).run Pr w=.ok b w:=by
 unfold eqC at h
 split at h
 · have:=Zz hf
   subst this
   split at h
   · cases h;cases hx;cases hy
     rw [run_equalIn_string w D t _ _ hu,Ti,ByteArray.toList_eq,ByteArray.toList_eq,ze5,ze5]
   · cases h
 · rename_i k
   have:=fits_int hf;subst this
   split at h
   · split at h
     · rename_i hk
       have:=tX hk;subst this;cases h;cases hx;cases hy;rw [run_equalIn_int w D t _ _ _ _ hu,YA]
     · cases h
   · cases h
 · have:=fits_bool hf
   subst this
   split at h
   · rename_i a b' ha hb
     cases h;have e1:=ZI ha hx;have e2:=ZI hb hy;subst e1;subst e2;rw [run_equalIn_bool w D t _ _ hu,zbz]
   · cases h
 · cases h
theorem zmn {ty:Ty} {d:TypeDesc} (hp:zcd ty=true) (hf:ty.fits d=true):d.isRow=false:=U1 hf (by cases ty<;>simp [zcd] at hp<;>rfl)
theorem zfM {t:Nat} {d:TypeDesc} (hu:Pr.underlying t=some d) (hr:d.isRow=false) {vs:List Value} {o:Nat} {v:Value} (hv:vs[o]? =some v) (w:World):(part t vs.toArray o).run Pr w=.ok v w:=by
 have:vs.toArray[o]? =some v:=by simpa using hv
 cases d<;>simp [TypeDesc.isRow] at hr<;>simp [part,isAgg,run_underlying hu,this]
theorem zcV (htab:T.fits Pr) {S:Frz} {bs:List Value} {cs ds:List C} {vs us:List Value} (hc:MCs S bs cs vs) (hd:MCs S bs ds us) (w:World) (D:Nat): ∀ (gs:List Field) (b:Bool),(∀ f ∈ gs,f.name≠ "_")→TG T (gs.map fun f=>(f.offset,f.type))=true→
  eqFs alg T cs ds (gs.map fun f=>(f.offset,f.type))=some b→(Op.eqFields (D+1) vs.toArray us.toArray gs).run Pr w=.ok b w
 |[],b,_,_,h=>by simp [eqFs] at h
 | g ::gs,b,hn,hp,h=>by
   simp only [List.map_cons,eqFs] at h;simp only [List.map_cons,TG] at hp
   split at h
   · rename_i c d e h1 h2 he
     rw [he] at hp;simp only [jK] at hp;rw [yg] at h1 h2;obtain⟨v,hv,hmv⟩:=hc.get h1;obtain⟨u,hu,hmu⟩:=hd.get h2;obtain⟨td,i,hund,_,hty,-⟩:=TE.und (Tab.get htab he);have hr:=zmn hp.1 hty;have p1:=zfM hund hr hv w;have p2:=zfM hund hr hu w
     have hn1:=hn g (by simp)
     split at h
     · rename_i b1 hb1
       have p3:=zqF hund hty hb1 hmv hmu w D;simp only [Op.eqFields,hn1,ne_eq,jg,if_true,Sem.run_bind,p1,p2,p3,Result.andThen_ok]
       split at h
       · rename_i hnil
         cases h
         have:gs=[]:=by cases gs with|nil=>rfl|cons _ _=>cases hnil
         subst this
         cases b<;>simp [Op.eqFields]
       · split at h
         · rename_i b2 hb2
           cases h
           have ih:=zcV htab hc hd w D gs b2 (fun f hf=>hn f (by simp [hf])) hp.2 hb2
           rw [zjf];cases b1
           · simp
           · simpa using ih
         · cases h
     · cases h
   · cases h
theorem SE {t:Nat} {d:TypeDesc} (hu:Pr.underlying t=some d) {ty:Ty} (hp:zcd ty=true) (hf:ty.fits d=true) (D:Nat):Pr.eqGuardType (D+1) t=false:=by
 cases ty<;>simp [zcd] at hp
 · have:=fits_bool hf;subst this;simp [Program.eqGuardType,hu]
 · have:=fits_int hf;subst this;simp [Program.eqGuardType,hu]
 · have:=Zz hf;subst this;simp [Program.eqGuardType,hu]
theorem zce (htab:T.fits Pr): ∀ {fs:List (Nat × Nat)},TG T fs=true→∀ p ∈ fs,∃ e d,T p.2=some e∧zcd e.ty=true∧Pr.underlying p.2=some d∧e.ty.fits d=true
 |[],_,p,hm=>by simp at hm
 | (o, t)::r,h,p,hm=>by
   simp only [TG] at h
   split at h
   · rename_i e he
     simp only [jK] at h
     rcases List.mem_cons.1 hm with rfl|hm
     · obtain⟨d,i,hund,_,hty,-⟩:=TE.und (Tab.get htab he)
       exact⟨e,d,he,h.1,hund,hty⟩
     · exact zce htab h.2 p hm
   · cases h
theorem zm9 (h:Sit Pr T S K fr st a w) {op:BinOp} {t yt:Nat} {x y:Operand} {e:TE} {cs ds:List C} (he:T t=some e) (hx:st.eval x=some (.v (.agg cs))) (hy:st.eval y=some (.v (.agg ds))):
  yG Pr S K a W ⟨dst,.binOp op t x y yt,ty,pos,af,gd⟩ (aggQ alg T op e.ty cs ds):=by
 obtain⟨d,i,hu,hi,hty,-⟩:=TE.und (Tab.get h.tab he);obtain⟨vs,hc,hxv⟩:=h.eval hx;obtain⟨us,hd,hyv⟩:=h.eval hy;unfold aggQ
 split
 · rename_i fs hfs
   split
   · rename_i b hp hb
     rw [hfs] at hty;obtain⟨gs,rfl,hgs⟩:=sZ hty;obtain⟨hn,hst⟩:=TE.eqs (Tab.get h.tab he) hfs hp hu
     have hfo:Pr.fieldsOf t=gs:=by simp [Program.fieldsOf,hu]
     have heq: ∀ w,(Op.equal t (.agg vs.toArray) (.agg us.toArray)).run Pr w=.ok b w:=fun w=>by
      show(Op.equalIn (9999+1) t _ _).run Pr w=_
      rw [run_equalIn_struct w 9999 t _ _ (by rw [hfo];exact hu) hst,hfo]
      exact zcV h.tab hc hd w 9998 gs.toList b hn (by rw [hgs];exact hp) (by rw [hgs];exact hb)
     have hgt: ∀ n,Pr.eqGuardType (n+1+1) t=false:=fun n=>by
      unfold Program.eqGuardType;simp only [hu];rw [← Array.any_toList];rw [List.any_eq_false];intro f hf
      obtain⟨e',d',_,hp',hu',hf'⟩:=zce h.tab hp (f.offset,f.type) (by rw [← hgs];exact List.mem_map_of_mem hf)
      simp [SE hu' hp' hf']
     have hgd:Pr.eqGuardType Pr.depth t=false:=by
      obtain⟨n,hn⟩: ∃ n,Pr.depth=n+1+1:=by unfold Program.depth;exact⟨_,rfl⟩
      rw [hn];exact hgt n
     have hg: ∀ w,(eqGuard op t x y (.agg vs.toArray) (.agg us.toArray)).run Pr w=.ok () w:=fun w=>run_eqGuard_agg w op t x y _ _ hgd
     split
     · exact zA (v:=.bool b) (fun w _=>by simp [execOp,hxv,hyv,hg,binOp,heq]) (.bool _)
     · exact zA (v:=.bool (alg.bnot b)) (fun w _=>by simp [execOp,hxv,hyv,hg,binOp,heq,su]) (.bool _)
     · exact zq
   · exact zq
 · exact zq
theorem Xg {d:TypeDesc} (h:Ty.iface.fits d=true): ∃ ms,d=.interface ms:=by cases d<;>simp [Ty.fits] at h;exact⟨_,rfl⟩
theorem zpS {S:Frz} {bs:List Value} {T0:Nat} {ag:Bool} {ps:List P} {v:Value} (h:MC S bs (.ifc T0 ag ps) v): ∃ u,v=.iface T0 u:=by
 cases ag with
 | false=>
   cases ps with
   |nil=>exact h.elim
   | cons p ps=>
     cases ps with
     |nil=>obtain⟨x,_,rfl⟩:=h;exact⟨_,rfl⟩
     |cons q qs=>exact h.elim
 |true=>obtain⟨vs,_,rfl⟩:=h;exact⟨_,rfl⟩
theorem rU {t:Nat} {ms} (ht:Pr.underlying t=some (.interface ms)) (T0:Nat) (u:Value):(Op.equal t (.iface T0 u) .nilIface).run Pr w=.ok false w:=by
 unfold Op.equal Op.maxDepth Op.equalIn
 simp [run_underlying ht]
theorem ZU {t:Nat} {ms} (ht:Pr.underlying t=some (.interface ms)):(Op.equal t .nilIface .nilIface).run Pr w=.ok true w:=by
 unfold Op.equal Op.maxDepth Op.equalIn
 simp [run_underlying ht]
theorem zhw (h:Sit Pr T S K fr st a w) {x:Operand} {xt t:Nat} {ok:Bool}:yG Pr S K a W ⟨dst,.typeAssert x xt t ok,ty,pos,af,gd⟩ (qop alg T st (.typeAssert x xt t ok)):=by
 cases ok with
 |false=>exact zq
 |true=>
 simp only [qop]
 split
 · rename_i e c he hc
   have hm:=h.one hc;obtain⟨d,i,hu,hi,hty,-⟩:=TE.und (Tab.get h.tab he);generalize hx:a.eval x=xv at hm;unfold zro
   split
   · rename_i k hety
     rw [hety] at hty;have:=fits_int hty;subst this
     split
     · rename_i t' p
       split
       · rename_i hb
         obtain rfl:=jI hb;obtain⟨v,h1,rfl⟩:=hm
         exact fun Q hq=>⟨.tuple #[v,.bool true],.tup [.one (.p p),.one (.p (.val (.bool true)))],by simp [Yields,execOp,hx,Instr.typeAssert,run_underlying hu],⟨[v,.bool true],⟨h1,.val _ rfl,trivial⟩,rfl⟩,hq⟩
       · exact zq
     · exact zq
   · rename_i fs hety
     rw [hety] at hty;obtain⟨gs,rfl,_⟩:=sZ hty
     split
     · rename_i t' ps
       split
       · rename_i hb
         obtain rfl:=jI hb;obtain⟨vs,h1,rfl⟩:=hm
         exact fun Q hq=>⟨.tuple #[.agg vs.toArray,.bool true],.tup [.agg (ps.map C.p),.one (.p (.val (.bool true)))],by simp [Yields,execOp,hx,Instr.typeAssert,run_underlying hu],⟨[.agg vs.toArray,.bool true],⟨⟨vs,h1.mcs,rfl⟩,.val _ rfl,trivial⟩,rfl⟩,hq⟩
       · exact zq
     · exact zq
   · exact zq
 · exact zq
theorem zi6 (h:Sit Pr T S K fr st a w) {op:BinOp} {t yt:Nat} {x y:Operand}:yG Pr S K a W ⟨dst,.binOp op t x y yt,ty,pos,af,gd⟩ (qop alg T st (.binOp op t x y yt)):=by
 simp only [qop]
 split
 · rename_i hk
   have hy0:a.eval y=.nilIface:=by
    unfold zpN at hk
    split at hk
    · rfl
    · cases hk
   have hyc:y=.const .nilIface:=by
    unfold zpN at hk
    split at hk
    · rfl
    · cases hk
   split
   · rename_i e c he hc
     have hm:=h.one hc;obtain⟨d,i,hu,hi,hty,-⟩:=TE.und (Tab.get h.tab he);generalize hx:a.eval x=xv at hm;subst hyc;unfold zuk
     split
     · rename_i T0 ag ps hety
       rw [hety] at hty;obtain⟨ms,rfl⟩:=Xg hty;obtain⟨u,hv⟩:=zpS hm
       exact zA (v:=.bool false) (by simp [Yields,execOp,hx,hv,hy0,eqGuard,binOp,rU hu]) (.val _ rfl)
     · rename_i T0 ag ps hety
       rw [hety] at hty;obtain⟨ms,rfl⟩:=Xg hty;obtain⟨u,hv⟩:=zpS hm
       exact zA (v:=.bool true) (by simp [Yields,execOp,hx,hv,hy0,eqGuard,binOp,rU hu]) (.val _ rfl)
     · rename_i hety
       rw [hety] at hty;obtain⟨ms,rfl⟩:=Xg hty;cases hm
       exact zA (v:=.bool true) (by simp [Yields,execOp,hx,hy0,eqGuard,binOp,ZU hu]) (.val _ rfl)
     · rename_i hety
       rw [hety] at hty;obtain⟨ms,rfl⟩:=Xg hty;cases hm
       exact zA (v:=.bool false) (by simp [Yields,execOp,hx,hy0,eqGuard,binOp,ZU hu]) (.val _ rfl)
     · exact zq
   · exact zq
 split
 · rename_i e c he hc hc'
   have hm:=h.one hc;have hm':=h.one hc';obtain⟨d,i,hu,hi,hty,-⟩:=TE.und (Tab.get h.tab he);generalize hx:a.eval x=xv at hm;generalize hy:a.eval y=yv at hm';cases hm';unfold nilQ
   split
   · rename_i el hety
     rw [hety] at hty;have:=zW hty;subst this
     exact zkv (o:=⟨dst,.binOp .eql t x y yt,ty,pos,af,gd⟩) h hm true fun ao n cap e=>by simp [Yields,execOp,hx,hy,e,eqGuard,binOp,Ya hu]
   · rename_i el hety
     rw [hety] at hty;have:=zW hty;subst this
     exact zkv (o:=⟨dst,.binOp .neq t x y yt,ty,pos,af,gd⟩) h hm false fun ao n cap e=>by simp [Yields,execOp,hx,hy,e,eqGuard,binOp,Ya hu]
   · exact zq
 · rename_i e c c' hno he hc hc'
   have hm:=h.one hc;have hm':=h.one hc';obtain⟨d,i,hu,hi,hty,-⟩:=TE.und (Tab.get h.tab he);generalize hx:a.eval x=xv at hm;generalize hy:a.eval y=yv at hm';unfold binQ
   split
   · cases hm;cases hm'
     split
     · exact zri hx hy
     · rename_i hs
       split
       · rename_i hk
         have:=tX hk;subst this;exact zwI hx hy hs
       · exact zq
   · cases hm;cases hm';exact zwH hx hy
   · obtain⟨b,_,rfl⟩:=hm
     cases hm'
     split
     · rename_i hety
       rw [hety] at hty;obtain⟨e',rfl⟩:=ztp hty
       split
       · exact zA (v:=.bool false) (by simp [Yields,execOp,hx,hy,eqGuard,binOp,ZT hu]) (.val _ rfl)
       · exact zA (v:=.bool true) (by simp [Yields,execOp,hx,hy,eqGuard,binOp,ZT hu]) (.val _ rfl)
       · exact zq
     · exact zq
   · split
     · rename_i b b' hety hb hb'
       rw [hety] at hty;have:=fits_bool hty;subst this;have e1:=ZI hb hm;have e2:=ZI hb' hm';subst e1;subst e2
       split
       · exact zA (v:=.bool (alg.beq b b')) (by simp [Yields,execOp,hx,hy,eqGuard,binOp,run_equal_bool hu,zbz]) (.bool _)
       · exact zA (v:=.bool (alg.bnot (alg.beq b b'))) (by simp [Yields,execOp,hx,hy,eqGuard,binOp,run_equal_bool hu,zbz,su]) (.bool _)
       · exact zq
     · exact zq
 · rename_i e he _ _
   split
   · rename_i cs ds hx hy;exact zm9 h he hx hy
   · exact zq
 · exact zq
theorem zl1 (h:Sit Pr T S K fr st a w) {op:UnOp} {t:Nat} {x:Operand}:yG Pr S K a W ⟨dst,.unOp op t x,ty,pos,af,gd⟩ (qop alg T st (.unOp op t x)):=by
 simp only [qop]
 split
 · rename_i b hc
   have hm:=h.one hc;generalize hx:a.eval x=xv at hm;cases hm
   exact zA (v:=.bool (alg.bnot b)) (by simp [Yields,execOp,hx,Op.unary,su]) (.bool _)
 · rename_i hc
   have hm:=h.one hc;generalize hx:a.eval x=xv at hm;cases hm
   exact zA (v:=.bool false) (by simp [Yields,execOp,hx,Op.unary]) (.val _ rfl)
 · rename_i hc
   have hm:=h.one hc;generalize hx:a.eval x=xv at hm;cases hm
   exact zA (v:=.bool true) (by simp [Yields,execOp,hx,Op.unary]) (.val _ rfl)
 · rename_i k n hc
   have hm:=h.one hc;generalize hx:a.eval x=xv at hm;cases hm
   exact rJ (by simp [Yields,execOp,hx,Op.unary,Op.intArith,ZK])
 · exact zq
theorem ziV {S:Frz} {l:Str} {vs:List Value} (hlen:vs.length=l.length * U.byte.size)
  (hx: ∀ (i:Nat) (x:U.byte.den) (j:Nat) (p:P) (v:Value),l[i]? =some x→(enc alg .byte x)[j]? =some p→vs[i * U.byte.size+j]? =some v→MP S p v):vs=bvs l:=by
 apply List.ext_getElem?;intro i;rw [bvs_getElem?]
 have hl:vs.length=l.length:=by simpa [U.size] using hlen
 rcases Nat.lt_or_ge i l.length with hi|hi
 · have h1:l[i]? =some l[i]:=jm hi
   have h2:vs[i]? =some vs[i]:=jm (by omega)
   have:=hx i l[i] 0 (.int .u8 (alg.b2i l[i])) vs[i] h1 rfl (by simpa [U.size] using h2)
   rw [h1,h2];generalize vs[i]=v at this;cases this;rfl
 · rw [List.getElem?_eq_none (by omega),List.getElem?_eq_none (by omega)];rfl
theorem zeM (h:Sit Pr T S K fr st a w) (hW:Cls S K W) {s d:Nat} {x:Operand}:yG Pr S K a W ⟨dst,.convert s d x,ty,pos,af,gd⟩ (qop alg T st (.convert s d x)):=by
 simp only [qop]
 split
 · rename_i es ed c hes hed hc
   have hm:=h.one hc;obtain⟨ds,is,hus,-,htys,-⟩:=TE.und (Tab.get h.tab hes);obtain⟨dd,id,hud,-,htyd,-⟩:=TE.und (Tab.get h.tab hed);generalize hx:a.eval x=xv at hm;unfold zyk
   split
   · rename_i k k' n hk
     rw [hk] at htyd;have:=fits_int htyd;subst this;cases hm;refine zA (v:=.int k (k.wrap n)) ?_ (.int _ _)
     cases ds<;>simp [Yields,execOp,hx,convert,run_underlying hus,run_underlying hud,Conv.intToInt]
   · rename_i l hk
     rw [hk] at htyd;have:=Zz htyd;subst this
     cases hm with
     | str _ hl=>
       refine zA (v:=.string (Sep.S l)) ?_ (.str _ hl)
       cases ds<;>simp [Yields,execOp,hx,convert,run_underlying hus,run_underlying hud]
   · rename_i hk _
     rw [hk] at htyd;have:=Zz htyd;subst this
     split
     · rename_i el hel
       rw [hel] at htys;have:=zW htys;subst this
       split
       · rename_i b1 b2 b3 b4 hte
         obtain⟨de,ie,hue,-,htye,-⟩:=TE.und (Tab.get h.tab hte);have:=fits_int htye;subst this
         split
         · rename_i l hcont
           obtain⟨ao,cap,vs,rfl,hnc,hlen,hrdW,hxs⟩:=h.zyl hm hcont;have hrd:=hrdW _ h.cls w rfl;have:=ziV hlen hxs;subst this;have hle:=hrd.le;refine zA (v:=.string (Sep.S l)) (fun w hw=>zhe hus hue hud hx (hrdW _ hW w hw)) (.str _ ?_);obtain⟨_,_,e,h1,h2,_⟩:=hrd;cases e;exact Nat.le_trans h1 h2
         · split
           · cases hm
             have hrd: ∀ w,Rd w 1 (.slice none 0 0) 0 (bvs []):=fun w=>⟨none,0,rfl,jL _,jM _,fun _=>rfl,rfl,fun j u h=>by simp [bvs] at h⟩
             exact zA (v:=.string (Sep.S [])) (fun w _=>zhe hus hue hud hx (hrd w)) (.str _ (jM _))
           · exact zq
       · exact zq
     · exact zq
   · exact zq
 · exact zq
end
end Go.Ab
namespace Go.Ab
open Go Go.Sep
variable [Facts]
section
variable {Pr:Program} {T:Tab} {S:Frz} {K:List CO} {fr:List Chunk} {st:St} {a:Act} {w:World} {W:World→Prop}
variable {dst:Option Tmp} {ty:TypeId} {pos:String} {af:Array Edge} {gd:Option (Nat × Bool)}
theorem yL {o:Oper} {c:C} {v:Value} (hy:Yields Pr a W o v) (hm:MC S (K.map CO.base) c v):yG Pr S K a W o (okc c):=fun _ hq=>⟨v,.v (.one c),hy,hm,hq⟩
theorem zbA (u:U):0<u.size:=by cases u<;>decide
theorem Ve {S:Frz} (u:U):MP S (.list u []) (.slice none 0 0):=
 .list u [] none 0 [] (by simp) (fun w _=>⟨none,0,rfl,jL _,jM _,fun _=>rfl,by simp,fun j u h=>by simp at h⟩) (fun i x j p v h=>by simp at h)
theorem zcc {S:Frz} {bs:List Value} {z:P} {c:C} {p:P} {v:Value} (h:purC z c=some p) (hm:MC S bs c v):MP S p v:=by
 unfold purC at h
 split at h
 · cases h;exact hm
 · split at h
   · cases h;cases hm;exact Ve _
   · cases h;cases hm;exact .nl [] _ (fun _=>rfl) (Ve _)
   · cases h
 · cases h
theorem yV {S:Frz} {bs:List Value}: ∀ {zs:List P} {cs:List C} {ps:List P} {vs:List Value},qC zs cs=some ps→MCs S bs cs vs→MPs S ps vs
 |[],[],ps,vs,h,hm=>by cases h;cases vs with|nil=>trivial|cons _ _=>exact hm.elim
 | z ::zs,c::cs,ps,vs,h,hm=>by
   simp only [qC] at h
   split at h
   · rename_i p ps' h1 h2
     cases h
     cases vs with
     |nil=>exact hm.elim
     |cons v vs=>exact⟨zcc h1 hm.1,yV h2 hm.2⟩
   · cases h
 |[],_::_,_,_,h,_=>by cases h
 |_::_,[],_,_,h,_=>by cases h
theorem XJ (h:Sit Pr T S K fr st a w) {t:Nat} {x:Operand}:yG Pr S K a W ⟨dst,.makeInterface t x,ty,pos,af,gd⟩ (qop alg T st (.makeInterface t x)):=by
 simp only [qop]
 split
 · rename_i e d he hd
   have hm:=h.eval hd;obtain⟨ds,i,hu,-,hty,-⟩:=TE.und (Tab.get h.tab he);generalize hx:a.eval x=xv at hm
   split
   · exact zq
   · exact zq
   · rename_i hno hnf
     have hy:Yields Pr a W ⟨dst,.makeInterface t x,ty,pos,af,gd⟩ (.iface t xv):=by
      cases hety:e.ty<;>rw [hety] at hty<;>first|(exact(hno hety).elim)|(exact(hnf hety).elim)|(cases ds<;>first|(simp [Ty.fits] at hty;done)|simp [Yields,execOp,hx,Instr.makeInterface,run_underlying hu])
     split
     · rename_i c
       split
       · rename_i z hz
         split
         · rename_i p hp
           have h1:=yV hp (vs:=[xv]) ⟨hm,trivial⟩;exact yL hy ⟨xv,h1.1,rfl⟩
         · exact zq
       · exact zq
     · rename_i cs
       split
       · rename_i z hz
         split
         · rename_i ps hps
           obtain⟨vs,hvs,rfl⟩:=hm;exact yL hy ⟨vs,yV hps hvs,rfl⟩
         · exact zq
       · exact zq
     · exact zq
 · exact zq
theorem zey (h:Sit Pr T S K fr st a w) {i:Nat} {x:Operand}:yG Pr S K a W ⟨dst,.extract x i,ty,pos,af,gd⟩ (qop alg T st (.extract x i)):=by
 intro Q hq;simp only [qop] at hq
 split at hq
 · rename_i l hl
   split at hq
   · rename_i v0 hv
     have hm:=h.eval hl;generalize hx:a.eval x=xv at hm;obtain⟨vs,hvs,rfl⟩:=hm;rw [yg] at hv
     have: ∀ {l:List V0} {vs:List Value} {i:Nat},MVs S (K.map CO.base) l vs→l[i]? =some v0→∃ u,vs[i]? =some u∧MV S (K.map CO.base) v0 u:=by
      intro l
      induction l with
      |nil=>intro vs i _ h;simp at h
      | cons c l ih=>
        intro vs i hvs h
        cases vs with
        |nil=>exact hvs.elim
        | cons v vs=>
          cases i with
          |zero=>simp at h;subst h;exact⟨v,rfl,hvs.1⟩
          |succ i=>obtain⟨u,h1,h2⟩:=ih hvs.2 (i:=i) (by simpa using h);exact⟨u,by simpa using h1,h2⟩
     obtain⟨u,hu,hmu⟩:=this hvs hv
     exact⟨u,.v v0,by simp [Yields,execOp,hx,Instr.extract,hu],hmu,hq⟩
   · exact hq.elim
 · exact hq.elim
theorem zh0 {s f:Nat} {gs:Array Field} {fd:Field} (hs:Pr.underlying s=some (.struct gs)) (hf:gs[f]? =some fd) {i:TypeInfo} (hi:Pr.info? fd.type=some i) (h0:0<i.size) (p:Addr):
  (Instr.fieldAt s (.pointer (some p)) f).run Pr w=.ok (.pointer (some (p.add fd.offset))) w:=by
 simp [Instr.fieldAt,run_underlying hs,hf,Instr.sureAddr,fieldPlace,sizeOf,typeInfo,hi,show ¬ i.size=0 by omega]
theorem zbl (h:Sit Pr T S K fr st a w) {t f:Nat} {x:Operand}:yG Pr S K a W ⟨dst,.fieldAddr t x f,ty,pos,af,gd⟩ (qop alg T st (.fieldAddr t x f)):=by
 simp only [qop]
 split
 · rename_i e c he hc
   have hm:=h.one hc;obtain⟨ds,i,hu,-,hty,-⟩:=TE.und (Tab.get h.tab he);generalize hx:a.eval x=xv at hm
   split
   · rename_i fs hfs
     rw [hfs] at hty;obtain⟨gs,rfl,hgs⟩:=sZ hty
     split
     · rename_i o tf hnf
       rw [yg,← hgs,List.getElem?_map,Option.map_eq_some_iff] at hnf;obtain⟨fd,hfd,hoff⟩:=hnf;simp only [Prod.mk.injEq] at hoff;obtain⟨rfl,rfl⟩:=hoff
       have hfd':gs[f]? =some fd:=by rw [← Array.getElem?_toList];exact hfd
       split
       · rename_i te hte
         obtain⟨_,ie,_,hie,_,hsz,_⟩:=TE.und (Tab.get h.tab hte)
         have go: ∀ p,xv=.pointer (some p)→0<te.size→Yields Pr a W ⟨dst,.fieldAddr t x f,ty,pos,af,gd⟩ (.pointer (some (p.add fd.offset))):=by
          intro p hp h0 w _
          simp only [execOp,hx,hp,Sem.run_bind,zh0 hu hfd' hie (by omega),Result.andThen_ok,Sem.run_pure]
         split
         · rename_i k off hb
           obtain⟨b,hb1,rfl⟩:=hm
           refine yL (go _ rfl (by simpa using hb)) ⟨b,hb1,?_⟩
           simp only [Addr.add]
           split
           · rename_i h0;rw [h0];rfl
           · rfl
         · rename_i u k i off hb
           obtain⟨ao,n,cap,hb1,h0,rfl⟩:=hm
           refine yL (go _ rfl (by simpa using hb)) ⟨ao,n,cap,hb1,h0,?_⟩
           simp only [Addr.add,adr]
           split
           · rename_i h0;rw [h0];rfl
           · simp only [Nat.add_assoc]
         · rename_i u l i off hb
           obtain⟨ao,cap,vs,h1,h2,h3,h0,rfl⟩:=hm
           refine yL (go _ rfl (by simpa using hb)) ⟨ao,cap,vs,h1,h2,h3,h0,?_⟩
           simp only [Addr.add,adr]
           split
           · rename_i h0;rw [h0];rfl
           · simp only [Nat.add_assoc]
         · exact zq
       · exact zq
     · exact zq
   · exact zq
 · exact zq
theorem zsl {t:Nat} {d:TypeDesc} {i:TypeInfo} (hu:Pr.underlying t=some d) (hi:Pr.info? t=some i) (vs:List Value) (o:Nat):
  (d.isRow=true→(part t vs.toArray o).run Pr w=.ok (.agg ((vs.drop o).take i.size).toArray) w)∧(d.isRow=false→∀ v,vs[o]? =some v→(part t vs.toArray o).run Pr w=.ok v w):=by
 constructor
 · intro hr
   have:(isAgg t).run Pr w=.ok true w:=by unfold isAgg;cases d<;>simp_all [run_underlying hu,TypeDesc.isRow]
   simp [part,this,sizeOf,typeInfo,hi]
 · intro hr v hv
   have:(isAgg t).run Pr w=.ok false w:=TF hu hr
   simp [part,this,hv]
theorem ziL (h:Sit Pr T S K fr st a w) {t f:Nat} {x:Operand}:yG Pr S K a W ⟨dst,.field t x f,ty,pos,af,gd⟩ (qop alg T st (.field t x f)):=by
 intro Q hq;simp only [qop] at hq
 split at hq
 · rename_i e cs he hd
   have hm:=h.eval hd;obtain⟨ds,i,hu,-,hty,-⟩:=TE.und (Tab.get h.tab he);generalize hx:a.eval x=xv at hm;obtain⟨vs,hvs,rfl⟩:=hm;unfold zuE at hq
   split at hq
   · rename_i fs hfs
     rw [hfs] at hty;obtain⟨gs,rfl,hgs⟩:=sZ hty
     split at hq
     · rename_i off tf hnf
       rw [yg,← hgs,List.getElem?_map,Option.map_eq_some_iff] at hnf;obtain⟨fd,hfd,hoff⟩:=hnf;simp only [Prod.mk.injEq] at hoff;obtain⟨rfl,rfl⟩:=hoff
       have hfd':gs[f]? =some fd:=by rw [← Array.getElem?_toList];exact hfd
       split at hq
       · rename_i te hte
         obtain⟨de,ie,hue,hie,htye,hsz,_⟩:=TE.und (Tab.get h.tab hte);have hp:=fun w=>zsl (w:=w) hue hie vs fd.offset
         rcases zbm hq (hvs.slice fd.offset te.size) with⟨hr,hl,hQ⟩|⟨hr,c1,v1,e1,e2,hm1,hQ⟩
         · refine⟨.agg ((vs.drop fd.offset).take te.size).toArray,.v (.agg ((cs.drop fd.offset).take te.size)),?_,⟨_,hvs.slice fd.offset te.size,rfl⟩,hQ⟩
           intro w _;have:=(hp w).1 (zld htye hr);rw [hsz] at this;simp only [execOp,hx,Instr.field,Sem.run_bind,run_underlying hu,Result.andThen_ok,hfd',asAgg,Sem.run_pure,this]
         · have hv:vs[fd.offset]? =some v1:=by
            have:((vs.drop fd.offset).take te.size)[0]? =some v1:=by rw [e2];rfl
            rw [jD] at this
            split at this
            · rw [jG] at this;simpa using this
            · cases this
           refine⟨v1,.v (.one c1),?_,hm1,hQ⟩;intro w _;have:=(hp w).2 (U1 htye hr) v1 hv;simp only [execOp,hx,Instr.field,Sem.run_bind,run_underlying hu,Result.andThen_ok,hfd',asAgg,Sem.run_pure,this]
       · exact hq.elim
     · exact hq.elim
   · exact hq.elim
 · exact hq.elim
theorem ziy (h:Sit Pr T S K fr st a w) {t:Nat} {x i:Operand}:yG Pr S K a W ⟨dst,.index t x i,ty,pos,af,gd⟩ (qop alg T st (.index t x i)):=by
 simp only [qop]
 split
 · rename_i e l n he hd hn
   have hm:=h.eval hd;obtain⟨k,hk⟩:=h.int hn;obtain⟨ds,i,hu,-,hty,-⟩:=TE.und (Tab.get h.tab he);generalize hx:a.eval x=xv at hm;cases hm
   split
   · rename_i hety
     rw [hety] at hty;have:=Zz hty;subst this;refine zH fun h0=> ?_;rw [ZM,zN] at h0
     have hlt:n.toNat<l.length:=by omega
     refine zA (v:=.int .u8 (alg.b2i (alg.get l 0 n))) ?_ (.int _ _);intro w _
     have:=ziN (w:=w) (dst:=dst) (ty:=ty) (pos:=pos) (af:=af) (gd:=gd) hu (jm hlt) hx hk (by omega)
     simp only [this,zjg,ze4,jH,jm hlt,Option.getD_some]
   · exact zq
 · exact zq
theorem run_arrayAt {t n e:Nat} (ht:Pr.underlying t=some (.array n e)) {i:TypeInfo} (hi:Pr.info? e=some i) (b o j:Nat) (hj:j<n) (k:IntKind):
  (Instr.indexAt t (.pointer (some ⟨b,o,none⟩)) (.int k j)).run Pr w=.ok (.pointer (some ⟨b,o+j * i.size,none⟩)) w:=by
 have e1:(⟨b,o,none⟩:Addr).add (j * i.size)=⟨b,o+j * i.size,none⟩:=by
  unfold Addr.add
  split
  · rename_i h0;rw [h0];rfl
  · rfl
 simp [Instr.indexAt,asIntOf,run_underlying ht,Instr.sureAddr,hj,sizeOf,typeInfo,hi,e1]
theorem za3 (h:Sit Pr T S K fr st a w) {t:Nat} {x ix:Operand}:yG Pr S K a W ⟨dst,.indexAddr t x ix,ty,pos,af,gd⟩ (qop alg T st (.indexAddr t x ix)):=by
 simp only [qop]
 split
 · rename_i e c n he hc hn
   have hm:=h.one hc;obtain⟨k,hk⟩:=h.int hn;have hf:=Tab.get h.tab he;obtain⟨ds,i,hu,-,hty,-⟩:=TE.und hf;generalize hx:a.eval x=xv at hm;unfold zcs
   split
   · rename_i m el hety
     rw [hety] at hty;have:=U2 hty;subst this
     split
     · rename_i kk off j te hj hte
       obtain⟨_,ie,_,hie,_,hsz,_⟩:=TE.und (Tab.get h.tab hte)
       split
       · rename_i hjm
         have hjm:j<m:=by simpa using hjm
         obtain⟨b,hb,rfl⟩:=hm;refine yL (v:=.pointer (some ⟨b,off+j * te.size,none⟩)) ?_ ⟨b,hb,rfl⟩
         have hnj:n=(j:Int):=by
          unfold zmA at hj
          split at hj
          · cases hj;rfl
          · cases hj
         subst hnj;intro w _;have:=run_arrayAt (w:=w) hu hie b off j hjm k;rw [hsz] at this;simp only [execOp,hx,hk,Sem.run_bind,this,Result.andThen_ok,Sem.run_pure]
       · exact zq
     · rename_i u kk i0 off te hte
       obtain⟨_,ie,_,hie,_,hsz,_⟩:=TE.und (Tab.get h.tab hte)
       split
       · rename_i hb hl0
         have hb:=jI hb
         have h00:i0=0:=by
          unfold zmA at hl0
          split at hl0
          · cases hl0;rfl
          · cases hl0
         subst h00;refine zH fun h0=> ?_;have h0:0≤n∧n<(m:Int):=h0;obtain⟨ao,m',cap,hbase,_,rfl⟩:=hm
         obtain⟨j,rfl⟩: ∃ j:Nat,n=j:=⟨n.toNat,by omega⟩
         refine yL (v:=.pointer (some (adr ao (j * u.size+0)))) ?_ ⟨ao,m',cap,hbase,by omega,by rw [jJ]⟩
         intro w _
         have:=run_arrayAt (w:=w) hu hie (blk ao) (ofs ao+(Int.toNat 0 * u.size+0)) j (by omega) k
         rw [hsz,hb] at this;have e1:adr ao (Int.toNat 0 * u.size+0)=⟨blk ao,ofs ao+(Int.toNat 0 * u.size+0),none⟩:=rfl
         have e2:adr ao (j * u.size+0)=⟨blk ao,ofs ao+(Int.toNat 0 * u.size+0)+j * u.size,none⟩:=by unfold adr;simp
         rw [e1] at hx;rw [e2];simp only [execOp,hx,hk,Sem.run_bind,this,Result.andThen_ok,Sem.run_pure]
       · exact zq
     · exact zq
   · rename_i el hety
     rw [hety] at hty;have:=zW hty;subst this
     split
     · exact zq
     · rename_i te hte
       obtain⟨_,ie,_,hie,_,hsz,_⟩:=TE.und (Tab.get h.tab hte)
       have hs1:(Pr.info? el).map (·.size)=some te.size:=TE.size' (Tab.get h.tab hte)
       have go: ∀ {ao:Option Addr} {m cap:Nat} {cs:List Value} {sz:Nat},xv=.slice ao m cap→Rd w sz (.slice ao m cap) m cs→te.size=sz→0<sz→0≤n→n<m→
         Yields Pr a W ⟨dst,.indexAddr t x ix,ty,pos,af,gd⟩ (.pointer (some (adr ao (n.toNat * sz)))):=by
        intro ao m cap cs sz hv hrd he2 h0 h1 h2;subst he2;have hl:=hrd.len
        have hp:n.toNat * te.size<cs.length:=by
         rw [hl]
         exact Nat.mul_lt_mul_of_pos_right (by omega) h0
        exact fun w _=>ztA hu hs1 n.toNat (hx.trans hv) hk (by omega) (by omega) (hrd.spot hp)
       split
       · rename_i u l
         split
         · rename_i hb
           have hb:=jI hb;refine zH fun h0=> ?_;rw [ZM,zN] at h0
           cases hm with
           | list _ _ ao cap vs hlen hr hxs=>
             refine yL (go rfl (hr w h.on) hb (zbA u) h0.1 h0.2) ⟨ao,cap,vs,hlen,hr,hxs,h0.1,rfl⟩
         · exact zq
       · rename_i kk
         split
         · rename_i u E l ho
           split
           · rename_i hb
             have hb:=jI hb;refine zH fun h0=> ?_;rw [ZM,zN] at h0;rw [yg] at ho;obtain⟨ao,cap,vs,hkk,hlen,hxs,hrd⟩:=h.row ho;have hbase:=zL hkk;have hv:=hm.1;rw [hbase] at hv;cases hv;exact yL (go rfl hrd hb (zbA u) h0.1 h0.2) ⟨ao,_,cap,hbase,h0.1,rfl⟩
           · exact zq
         · exact zq
       · rename_i u kk lo hi
         split
         · rename_i u' E l ho
           split
           · rename_i hb hb'
             have hb:=jI hb;have hb':=jI hb';refine zH fun h0=> ?_;rw [ZM,ZK] at h0;obtain⟨ao,m,cap,hbase,h1,h00,hsub⟩:=hm;rw [yg] at ho;obtain⟨ao',cap',vs,hkk,hlen,hxs,hrd⟩:=h.row ho;have hbase2:=hbase;rw [zL hkk] at hbase2;simp only [CO.base,jw,Value.slice.injEq] at hbase2;obtain⟨rfl,rfl,rfl⟩:=hbase2;rw [← hb'] at hrd;have hs:=hsub.rd hrd;obtain⟨ao2,cap2,rfl,h2,h3,h4,h5,h6,h7,-⟩:=hsub
             have h7:=h7 (by omega)
             have hy:=go rfl hs hb (zbA u) h0.1 (by omega)
             refine yL (v:=.pointer (some (adr ao' ((alg.add lo n).toNat * u.size)))) ?_ ⟨ao',_,cap',hbase,by rw [uh];omega,rfl⟩
             have hl:=hrd.len
             have hpos:0<vs.length:=by rw [hl];exact Nat.mul_pos (by omega) (zbA u)
             obtain⟨b,rfl,hsp⟩:=hrd.spot hpos
             have e1:(alg.add lo n).toNat=lo.toNat+n.toNat:=by rw [uh];omega
             rw [e1,Nat.add_mul]
             have e2:adr ao2 (n.toNat * u.size)=adr (some b) (lo.toNat * u.size+n.toNat * u.size):=by
              rw [h7];simp only [Option.map_some,YB hsp,adr,blk,ofs,Nat.add_assoc]
             rw [e2] at hy;exact hy
           · exact zq
         · exact zq
       · exact zq
   · exact zq
 · exact zq
theorem uU (h:Sit Pr T S K fr st a w) {o:Option Operand} {n:Option Int} (hn:match o,n with|none,none=>True|some x,some m=>intC (st.eval x)=some m|_,_=>False) {d:Int} {dn:Nat} (hd:d=dn) {b:Nat} (hb:n.getD d=b):
  (o.map a.eval=none∧b=dn)∨∃ k i,o.map a.eval=some (.int k i)∧i=b:=by
 cases o with
 | none=>cases n with
   |none=>exact .inl ⟨rfl,by simp at hb;omega⟩
   |some m=>exact hn.elim
 | some x=>cases n with
   |none=>exact hn.elim
   |some m=>obtain⟨k,hk⟩:=h.int hn;exact .inr ⟨k,m,by simp [hk],hb⟩
theorem zqB {t m E size:Nat} {x:Operand} {lo hi:Option Operand} (ht:Pr.underlying t=some (.array m E)) (hs:(Pr.info? E).map (·.size)=some size) {ad:Addr} (l h:Nat) (hx:a.eval x=.pointer (some ad))
  (hlo:(lo.map a.eval=none∧l=0)∨∃ k i,lo.map a.eval=some (.int k i)∧i=l) (hhi:(hi.map a.eval=none∧h=m)∨∃ k i,hi.map a.eval=some (.int k i)∧i=h) (hlh:l≤h) (hn:h≤m):
  (execOp a.eval ⟨dst,.slice t x lo hi none,ty,pos,af,gd⟩).run Pr w=.ok (.value (.slice (some (if m=l then ad else ad.add (l * size))) (h - l) (m - l))) w:=by
 obtain⟨inf,hi',hz⟩: ∃ inf,Pr.info? E=some inf∧inf.size=size:=by
  cases h:Pr.info? E with
  |none=>simp [h] at hs
  |some inf=>exact⟨inf,rfl,by simpa [h] using hs⟩
 have hlm:l≤m:=by omega
 rcases hlo with⟨h1,rfl⟩|⟨k,i,h1,rfl⟩<;>rcases hhi with⟨h2,rfl⟩|⟨k',i',h2,rfl⟩<;>
  simp [execOp,hx,h1,h2,Instr.sliceAt,Instr.sliceBounds,Instr.sliceBound,Instr.sureAddr,asIntOf,run_underlying ht,sizeOf,typeInfo,hi',hz,hlh,hn,hlm]
theorem YH (h:Sit Pr T S K fr st a w) {t:Nat} {x:Operand} {lo hi:Option Operand} {e:TE} {c:C} (he:T t=some e) (hc:oneC (st.eval x)=some c) {ln hn:Option Int}
  (hlo:match lo,ln with|none,none=>True|some x,some m=>intC (st.eval x)=some m|_,_=>False) (hhi:match hi,hn with|none,none=>True|some x,some m=>intC (st.eval x)=some m|_,_=>False)
  {sz:Nat} (hsz:sz=match e.ty with|.slice el=>(match T el with|some te=>te.size|none=>0)|.array _ el=>(match T el with|some te=>te.size|none=>0)|_=>0):
  yG Pr S K a W ⟨dst,.slice t x lo hi none,ty,pos,af,gd⟩ (zbX alg st.hp e.ty sz c ln hn):=by
 have hm:=h.one hc;have hf:=Tab.get h.tab he;obtain⟨ds,i,hu,-,hty,-⟩:=TE.und hf;generalize hx:a.eval x=xv at hm
 have elem: ∀ {el:Nat} {u:U},e.ty=.slice el→Nat.beq sz u.size=true→Pr.underlying t=some (.slice el)∧(Pr.info? el).map (·.size)=some u.size:=by
  intro el u hel hb;have hb:=jI hb;rw [hel] at hty hsz;have:=zW hty;subst this;refine⟨hu,?_⟩
  cases hte:T el with
  |none=>simp only [hte] at hsz;have:=zbA u;omega
  |some te=>simp only [hte] at hsz;rw [← hb,hsz];exact TE.size' (Tab.get h.tab hte)
 have bnd: ∀ {m:Nat},alg.cutb (ln.getD 0) (hn.getD (m:Int)) (m:Int)→∃ l r:Nat,ln.getD 0=(l:Int)∧hn.getD (m:Int)=(r:Int)∧l≤r∧r≤m:=by
  intro m hb;rw [Uh] at hb
  exact⟨(ln.getD 0).toNat,(hn.getD (m:Int)).toNat,by omega,by omega,by omega,by omega⟩
 unfold zbX
 split
 · rename_i l hety
   rw [hety] at hty;have:=Zz hty;subst this;refine zH fun h0=> ?_;rw [zN] at h0;obtain⟨lb,rb,e1,e2,h1,h2⟩:=bnd h0
   cases hm with
   | str _ hl=>
     refine zA (v:=.string (Sep.S (alg.cut l (ln.getD 0) (hn.getD (alg.len l))))) ?_ (.str _ ?_)
     · rw [zN,e1,e2,ug,jJ,jJ]
       exact fun w _=>zqz hu lb rb hx (uU h hlo (d:=0) (dn:=0) rfl e1) (uU h hhi (d:=(l.length:Int)) rfl e2) h1 h2
     · rw [ug];simp;omega
 · rename_i u l hety
   split
   · rename_i hb
     obtain⟨hu',hs'⟩:=elem hety hb;refine zH fun h0=> ?_;rw [zN] at h0;obtain⟨lb,rb,e1,e2,h1,h2⟩:=bnd h0
     cases hm with
     | list _ _ ao cap vs hlen hr hxs=>
       have hrd:=hr w h.on;have hrd2:=hrd;obtain⟨_,_,e0,hnc,-⟩:=hrd2;cases e0;refine zA (v:=Sep.sub (.slice ao l.length cap) u.size lb rb) (fun w _=>zln hu' hs' lb rb hnc hx (uU h hlo (d:=0) (dn:=0) rfl e1) (uU h hhi (d:=(l.length:Int)) rfl e2) h1 h2) ?_;rw [zN,e1,e2,ug,jJ,jJ];have this:=fun w' hw'=>(hr w' hw').sub h1 h2;unfold Sep.sub at this ⊢;simp only at this ⊢;obtain⟨l2,hl2e⟩: ∃ l2,l2=(l.drop lb).take (rb - lb):=⟨_,rfl⟩
       have hl2:l2.length=rb - lb:=by rw [hl2e];simp;omega
       rw [← hl2e];rw [← hl2] at this ⊢;refine .list u _ _ _ _ (this w h.on).len this fun i x j p v hi' hj hv=> ?_;rw [hl2e,jD] at hi'
       split at hi'
       · rw [jG] at hi'
         refine hxs (lb+i) x j p v hi' hj ?_;rw [jD] at hv
         split at hv
         · rw [jG] at hv
           rw [← hv]
           congr 1
           rw [Nat.add_mul];omega
         · cases hv
       · cases hi'
   · exact zq
 · rename_i kk hety
   split
   · rename_i u E l ho
     split
     · rename_i hb
       obtain⟨hu',hs'⟩:=elem hety hb;refine zH fun h0=> ?_;rw [zN] at h0;obtain⟨lb,rb,e1,e2,h1,h2⟩:=bnd h0;rw [yg] at ho;obtain⟨ao,cap,vs,hkk,hlen,hxs,hrd⟩:=h.row ho;have hbase:=zL hkk;have hv:=hm.1;rw [hbase] at hv;cases hv;have hrd2:=hrd;obtain⟨_,_,e0,hnc,-⟩:=hrd2;cases e0;refine yL (v:=Sep.sub (.slice ao l.length cap) u.size lb rb) (fun w _=>zln hu' hs' lb rb hnc hx (uU h hlo (d:=0) (dn:=0) rfl e1) (uU h hhi (d:=(l.length:Int)) rfl e2) h1 h2) ?_;rw [zN,e1,e2]
       exact⟨ao,_,cap,hbase,by omega,by omega,by rw [jJ,jJ];exact .mk hrd h1 h2⟩
     · exact zq
   · exact zq
 · rename_i u kk a0 b0 hety
   split
   · rename_i hb
     obtain⟨hu',hs'⟩:=elem hety hb;refine zH fun h0=> ?_;obtain⟨ao,m,cap,hbase,h1,h2,hsub⟩:=hm;have hsub0:=hsub;obtain⟨ao2,cap2,rfl,h3,h4,h5,h6,h7,h8,-⟩:=hsub;rw [ZK] at h0
     have hlen:b0 - a0=((b0.toNat - a0.toNat:Nat):Int):=by omega
     rw [hlen] at h0;obtain⟨lb,rb,e1,e2,h9,h10⟩:=bnd h0
     have hy:=fun w (_:W w)=>zln (w:=w) (dst:=dst) (ty:=ty) (pos:=pos) (af:=af) (gd:=gd) hu' hs' lb rb h5 hx
      (uU h hlo (d:=0) (dn:=0) rfl e1) (uU h hhi (d:=((b0.toNat - a0.toNat:Nat):Int)) rfl e2) h9 h10
     have e3:(alg.add a0 (ln.getD 0)).toNat=a0.toNat+lb:=by rw [uh,e1];omega
     have e4:(alg.add a0 (hn.getD (alg.sub b0 a0))).toNat=a0.toNat+rb:=by rw [uh,ZK,hlen,e2];omega
     refine yL hy ⟨ao,m,cap,hbase,by rw [uh,e1];omega,by rw [uh,ZK,hlen,e2];omega,?_⟩
     rw [e3,e4];exact hsub0.sub h9 h10
   · exact zq
 · rename_i el hety
   split
   · rename_i hb
     have hb:0<sz:=by simpa [Nat.blt_eq] using hb
     have hm:xv=.slice none 0 0:=hm;rw [hety] at hty hsz;have:=zW hty;subst this
     have hs':(Pr.info? el).map (·.size)=some sz:=by
      cases hte:T el with
      |none=>simp only [hte] at hsz;omega
      |some te=>simp only [hte] at hsz;rw [hsz];exact TE.size' (Tab.get h.tab hte)
     refine zH fun h0=> ?_;obtain⟨lb,rb,e1,e2,h1,h2⟩:=bnd (m:=0) h0;have hy:=fun w (_:W w)=>zln (w:=w) (dst:=dst) (ty:=ty) (pos:=pos) (af:=af) (gd:=gd) hu hs' lb rb (jL 0) (hx.trans hm) (uU h hlo (d:=0) (dn:=0) rfl e1) (uU h hhi (d:=(0:Int)) (dn:=0) rfl e2) h1 h2
     have hl0:lb=0:=by omega
     have hr0:rb=0:=by omega
     subst hl0;subst hr0
     have hsub:Sep.sub (.slice none 0 0) sz 0 0=.slice none 0 0:=by simp [Sep.sub]
     rw [hsub] at hy;exact yL hy rfl
   · exact zq
 · rename_i n el u kk i0 off hety
   split
   · rename_i u' E l ho hl0
     simp only
     split
     · rename_i hb hb2 hn0 hn1
       have hb:=jI hb;have hb2:=jI hb2
       have hn0:0<n:=by simpa [Nat.blt_eq] using hn0
       have hn1:=Nat.le_of_ble_eq_true hn1;rw [hety] at hty hsz;have:=U2 hty;subst this
       have hs':(Pr.info? el).map (·.size)=some u.size:=by
        cases hte:T el with
        |none=>simp only [hte] at hsz;have:=zbA u;omega
        |some te=>simp only [hte] at hsz;rw [← hb,hsz];exact TE.size' (Tab.get h.tab hte)
       have h00:i0=0:=by
        unfold zmA at hl0
        split at hl0
        · cases hl0;rfl
        · cases hl0
       subst h00;refine zH fun h0=>zH fun h1=> ?_;rw [ZL,zN] at h1;have h1:(l.length:Int)=(n:Int):=h1;obtain⟨lb,rb,e1,e2,h2,h3⟩:=bnd (m:=n) h0;obtain⟨ao,m',cap,hbase,_,rfl⟩:=hm;rw [yg] at ho;obtain⟨ao',cap',vs,hkk,hlen,hxs,hrd⟩:=h.row ho;have hbase2:=hbase;rw [zL hkk] at hbase2;simp only [CO.base,jw,Value.slice.injEq] at hbase2;obtain⟨rfl,rfl,rfl⟩:=hbase2;rw [← hb2] at hrd;obtain⟨_,_,e0,hnc,hcm,hno,hl,hcells⟩:=hrd;cases e0
       have hpos:0<vs.length:=by rw [hlen];exact Nat.mul_pos (by omega) (zbA u')
       obtain⟨⟨a0,rfl,hsp⟩,_⟩:=hcells 0 vs[0] (by simp [hpos])
       have ea:adr (some a0) (Int.toNat 0 * u.size+0)=a0:=by
        cases a0 with|mk b o s=>cases hsp;unfold adr blk ofs;simp
       rw [ea] at hx
       have hy:=fun w (_:W w)=>zqB (w:=w) (dst:=dst) (ty:=ty) (pos:=pos) (af:=af) (gd:=gd) hu hs' lb rb hx
        (uU h hlo (d:=0) (dn:=0) rfl e1) (uU h hhi (d:=(n:Int)) rfl e2) h2 h3
       have e2':hn.getD (Int.ofNat n)=(rb:Int):=e2
       refine yL hy ⟨some a0,_,_,hbase,by rw [e1];omega,by rw [e2'];omega,_,n - lb,by rw [e1,e2',jJ,jJ],by rw [e1,e2',jJ,jJ];exact h2,by rw [e2',jJ];omega,by rw [e1,e2',jJ,jJ];omega,by omega,fun e=>(by cases e),?_,?_⟩
       · rw [e1,e2',jJ,jJ]
         intro hlt
         rw [if_neg (by omega)];rfl
       · rw [e1,jJ]
         intro h0;subst h0
         refine⟨?_,by omega⟩
         rw [if_neg (by omega)]
         exact Vg (some a0) (0 * u.size) (Nat.zero_mul _)
     · exact zq
   · exact zq
 · exact zq
theorem zhQ (h:Sit Pr T S K fr st a w) {t:Nat} {x:Operand} {lo hi:Option Operand}:yG Pr S K a W ⟨dst,.slice t x lo hi none,ty,pos,af,gd⟩ (qop alg T st (.slice t x lo hi none)):=by
 simp only [qop]
 split
 · rename_i e c he hc
   split
   · exact YH h he hc trivial trivial rfl
   · split
     · rename_i n hn;exact YH h he hc hn trivial rfl
     · exact zq
   · split
     · rename_i n hn;exact YH h he hc trivial hn rfl
     · exact zq
   · split
     · rename_i n m hn hm;exact YH h he hc hn hm rfl
     · exact zq
 · exact zq
theorem zqA {E size:Nat} {t:Nat} {x h m:Operand} (ht:Pr.underlying t=some (.slice E)) (hs:(Pr.info? E).map (·.size)=some size) {ao:Option Addr} {n cap:Nat} (q:Nat) (hcap:n≤cap) (hx:a.eval x=.slice ao n cap)
  {k k':IntKind} (hh:a.eval h=.int k (q:Int)) (hm:a.eval m=.int k' (q:Int)) (hn:q≤n):
  (execOp a.eval ⟨dst,.slice t x none (some h) (some m),ty,pos,af,gd⟩).run Pr w=.ok (.value (.slice ao q q)) w:=by
 obtain⟨inf,hi,hz⟩: ∃ inf,Pr.info? E=some inf∧inf.size=size:=by
  cases h:Pr.info? E with
  |none=>simp [h] at hs
  |some inf=>exact⟨inf,rfl,by simpa [h] using hs⟩
 have hqc:q≤cap:=by omega
 have hmap:ao.map (·.add 0)=ao:=Vg ao 0 rfl
 have hmap':Option.map (fun x=>Addr.add x 0) ao=ao:=hmap
 simp [execOp,hx,hh,hm,Instr.sliceAt,Instr.slice,Instr.sliceBounds,Instr.sliceBound,asIntOf,run_underlying ht,sizeOf,typeInfo,hi,hqc,hmap']
theorem zfn (h:Sit Pr T S K fr st a w) {t:Nat} {x y z:Operand}:yG Pr S K a W ⟨dst,.slice t x none (some y) (some z),ty,pos,af,gd⟩ (qop alg T st (.slice t x none (some y) (some z))):=by
 simp only [qop]
 split
 · rename_i e k n m he hc hn hm
   split
   · rename_i el u E l hety ho
     split
     · rename_i te hte
       split
       · rename_i hb
         refine zH fun hnm=>zH fun h0=> ?_;rw [ZL] at hnm;subst hnm;rw [Uh,zN] at h0;have hb:=jI hb;have hmc:=h.one hc;have hf:=Tab.get h.tab he;obtain⟨ds,i,hu,-,hty,-⟩:=TE.und hf;rw [hety] at hty;have:=zW hty;subst this
         have hs':(Pr.info? el).map (·.size)=some u.size:=by rw [← hb];exact TE.size' (Tab.get h.tab hte)
         obtain⟨k1,hy⟩:=h.int hn;obtain⟨k2,hz⟩:=h.int hm;generalize hx:a.eval x=xv at hmc;rw [yg] at ho;obtain⟨ao,cap,vs,hkk,hlen,hxs,hrd⟩:=h.row ho;have hbase:=zL hkk;have hv:=hmc.1;rw [hbase] at hv;cases hv;obtain⟨_,_,e0,hnc,hcm,hno,_⟩:=hrd;cases e0
         obtain⟨q,hq⟩: ∃ q:Nat,n=q:=⟨n.toNat,by omega⟩
         subst hq
         refine yL (v:=.slice ao q q) (fun w _=>zqA hu hs' q hnc hx hy hz (by omega)) ?_
         refine⟨ao,_,cap,hbase,Int.le_refl _,by omega,ao,q,by simp,by simp,?_,by simp,by omega,fun e=> ?_,fun _=> ?_,fun _=>⟨rfl,by omega⟩⟩
         · rw [jJ];omega
         · have:=hno e;omega
         · rw [show Int.toNat 0 * u.size=0 by simp,Vg _ _ rfl]
       · exact zq
     · exact zq
   · exact zq
 · exact zq
theorem qL {S:Frz}: ∀ {vs:List Value} {ps:List P},yH vs ps=true→MPs S ps vs:=by
 intro vs ps h
 induction ps generalizing vs with
 | nil=>cases vs with
   |nil=>trivial
   |cons v vs=>unfold yH at h;split at h<;>simp_all
 | cons p ps ih=>
   unfold yH at h
   split at h
   · rename_i h1 h2;cases h2
   · rename_i k vs k' ps' h1;cases h1
     simp only [jK] at h;rw [tX h.1];exact⟨.int _ _,ih h.2⟩
   · rename_i h1;cases h1;exact⟨.bool _,ih h⟩
   · rename_i h1;cases h1;exact⟨.str (S:=S) [] (jM _),ih h⟩
   · rename_i vs u ps' h1;cases h1
     refine⟨.list u [] none 0 [] (by simp) (fun w _=>⟨none,0,rfl,jL _,jM _,fun _=>rfl,by simp,fun j u h=>by simp at h⟩) (fun i x j p v h=>by simp at h),ih h⟩
   · rename_i h1;cases h1;exact⟨.nl [] _ (fun _=>rfl) (Ve _),ih h⟩
   · rename_i h1;cases h1;exact⟨.val _ rfl,ih h⟩
   · rename_i h1;cases h1;exact⟨.val _ rfl,ih h⟩
   · rename_i h1;cases h1;exact⟨.val _ rfl,ih h⟩
   · cases h
theorem zjh {S:Frz} {bs:List Value}: ∀ {ps:List P} {vs:List Value},yH vs ps=true→MCs S bs (ps.map zc) vs:=by
 intro ps
 induction ps with
 | nil=>intro vs h;cases vs with
   |nil=>trivial
   |cons v vs=>unfold yH at h;split at h<;>simp_all
 | cons p ps ih=>
   intro vs h;unfold yH at h
   split at h
   · rename_i h1 h2;cases h2
   · rename_i k vs k' ps' h1;cases h1
     simp only [jK] at h;rw [tX h.1];exact⟨.int _ _,ih h.2⟩
   · rename_i h1;cases h1;exact⟨.bool _,ih h⟩
   · rename_i h1;cases h1;exact⟨.str (S:=S) [] (jM _),ih h⟩
   · rename_i vs u ps' h1;cases h1;exact⟨rfl,ih h⟩
   · rename_i h1;cases h1;exact⟨rfl,ih h⟩
   · rename_i h1;cases h1;exact⟨.val _ rfl,ih h⟩
   · rename_i h1;cases h1;exact⟨.val _ rfl,ih h⟩
   · rename_i h1;cases h1;exact⟨.val _ rfl,ih h⟩
   · cases h
def layV:List Value→Nat→List Value→List Value
 |cs,_,[]=>cs
 |cs,o,d::ds=>layV (cs.set o d) (o+1) ds
theorem zaZ {S:Frz} {bs:List Value}: ∀ {ds:List C} {vs:List Value} {cs:List C} {us:List Value} (o:Nat),MCs S bs ds vs→MCs S bs cs us→MCs S bs (lay cs o ds) (layV us o vs)
 |[],[],_,_,_,_,h=>h
 |_::_,_::_,_,_,o,hd,h=>zaZ (o+1) hd.2 (h.set o hd.1)
theorem zeq: ∀ (vs:List Value) (us:Array Value) (o k:Nat),(vs.zipIdx k).foldl (fun cs (c,j)=>cs.setIfInBounds (o+j) c) us=(layV us.toList (o+k) vs).toArray
 |[],us,o,k=>by simp [layV]
 | v::vs,us,o,k=>by
   simp only [List.zipIdx_cons,List.foldl_cons,layV];rw [zeq vs _ o (k+1)]
   simp [Nat.add_assoc]
theorem zeP {S:Frz} {bs:List Value} {d:D} {cs:List C} {v:Value} (h:cellsOf d=some cs) (hm:MD S bs d v): ∃ vs:List Value,v.cells=vs.toArray∧MCs S bs cs vs:=by
 unfold cellsOf at h
 split at h
 · rename_i c
   cases h;have h1:=MC.one (S:=S) (bs:=bs) hm;refine⟨[v],?_,hm,trivial⟩
   cases v<;>first|rfl|(simp [Value.oneCell'] at h1)
 · rename_i cs'
   cases h;obtain⟨vs,hvs,rfl⟩:=hm;exact⟨vs,rfl,hvs⟩
 · cases h
theorem TM (h:Sit Pr T S K fr st a w) {pa pv:Nat→Option (Nat × Nat)} (hp: ∀ i x,pa i=some x→pv i=some x): ∀ {parts:List (Nat × Operand)} {cs cs':List C} {us:List Value},
  layAll pa cs (parts.map fun p=>(p.1,st.eval p.2))=some cs'→MCs S (K.map CO.base) cs us→∃ us':List Value,Instr.fill pv us.toArray (parts.map fun(i,x)=>(i,a.eval x))=some us'.toArray∧MCs S (K.map CO.base) cs' us':=by
 intro parts
 induction parts with
 |nil=>intro cs cs' us hl hm;cases hl;exact⟨us,rfl,hm⟩
 | cons pt parts ih=>
   intro cs cs' us hl hm;obtain⟨i,x⟩:=pt;simp only [List.map_cons,layAll] at hl
   split at hl
   · rename_i o n d hpa hd
     split at hl
     · rename_i ds hds
       split at hl
       · rename_i hb1 hb2
         have hb1:=jI hb1;have hb2:=Nat.le_of_ble_eq_true hb2;obtain⟨vs,hvc,hvm⟩:=zeP hds (h.eval hd);obtain⟨us',h1,h2⟩:=ih hl (zaZ o hvm hm);refine⟨us',?_,h2⟩;have hl1:=hvm.length;have hl2:=hm.length;simp only [List.map_cons,Instr.fill,hp _ _ hpa,hvc]
         rw [if_neg (by simp;omega)]
         have:=zeq vs us.toArray o 0;simp only [Nat.add_zero] at this;rw [← h1,← this]
         congr 1
         simp
       · cases hl
     · cases hl
   · cases hl
theorem zfL (h:Sit Pr T S K fr st a w): ∀ {gs:List Field} {pl:List (Nat × Nat)},places T (gs.map fun f=>(f.offset,f.type))=some pl→gs.mapM (fun f=>(Pr.info? f.type).map fun i=>(f.offset,i.size))=some pl:=by
 intro gs
 induction gs with
 |nil=>intro pl hp;cases hp;rfl
 | cons g gs ih=>
   intro pl hp;simp only [List.map_cons,places] at hp
   split at hp
   · rename_i te l h1 h2
     cases hp;obtain⟨_,ie,_,hie,_,hsz,_⟩:=TE.und (Tab.get h.tab h1)
     simp [List.mapM_cons,hie,ih h2,hsz]
   · cases hp
theorem ziZ (h:Sit Pr T S K fr st a w) {t:Nat} {parts:Array (Nat × Operand)}:yG Pr S K a W ⟨dst,.build t parts,ty,pos,af,gd⟩ (qop alg T st (.build t parts)):=by
 intro Q hq;simp only [qop] at hq
 split at hq
 · rename_i e he
   have hf:=Tab.get h.tab he;obtain⟨ds,it,hu,hit,hty,-⟩:=TE.und hf;unfold zuS at hq
   split at hq
   · exact hq.elim
   · rename_i z hz
     obtain⟨it',zv,hit',hzv,hzf,hzl⟩:=TE.zero' hf hz;rw [hit] at hit';cases hit';have hm0:=zjh (S:=S) (bs:=K.map CO.base) hzf
     have hyield: ∀ {us':List Value},Pr.built t (parts.map fun(i,x)=>(i,a.eval x)).toList=some us'.toArray→Yields Pr a W ⟨dst,.build t parts,ty,pos,af,gd⟩ (.agg us'.toArray):=by
      intro us' hb w _;simp only [execOp,Sem.run_bind,run_build w t _ _ hb,Result.andThen_ok,Sem.run_pure]
     split at hq
     · rename_i fs hfs
       rw [hfs] at hty;obtain⟨gs,rfl,hgs⟩:=sZ hty
       split at hq
       · rename_i pl hpl
         split at hq
         · rename_i cs hcs
           rw [← hgs] at hpl;have hpl:=zfL h hpl
           obtain⟨us',h1,h2⟩:=TM h (pv:=(pl.toArray[·]?)) (fun i x hi=>by rw [yg] at hi;simpa using hi) hcs hm0
           refine⟨_,.v (.agg cs),hyield (us':=us') ?_,⟨us',h2,rfl⟩,hq⟩;simp only [Program.built,hit,hu,hzv,hpl]
           simpa using h1
         · exact hq.elim
       · exact hq.elim
     · rename_i m el hel
       rw [hel] at hty;have:=U2 hty;subst this
       split at hq
       · rename_i te hte
         obtain⟨_,ie,_,hie,_,hsz,_⟩:=TE.und (Tab.get h.tab hte)
         split at hq
         · rename_i cs hcs
           obtain⟨us',h1,h2⟩:=TM h (pv:=fun i=>some (i * te.size,te.size)) (fun i x hi=>hi) hcs hm0;refine⟨_,.v (.agg cs),hyield (us':=us') ?_,⟨us',h2,rfl⟩,hq⟩;simp only [Program.built,hit,hu,hzv,hie,hsz]
           simpa using h1
         · exact hq.elim
       · exact hq.elim
     · exact hq.elim
 · exact hq.elim
theorem zm3 (h:Sit Pr T S K fr st a w) {c:Call}:yG Pr S K a W ⟨dst,.call c,ty,pos,af,gd⟩ (qop alg T st (.call c)):=by
 obtain⟨callee,args,tys⟩:=c;simp only [qop]
 split
 · rename_i x hargs
   have hargs:args= #[x]:=by apply Array.ext';simpa using hargs
   subst hargs
   split
   · rename_i v t hv htys
     have htys:tys= #[t]:=by apply Array.ext';simpa using htys
     subst htys;have hm:=h.one hv;generalize hx:a.eval x=xv at hm
     split
     · rename_i e he
       obtain⟨ds,it,hu,hit,hty,-⟩:=TE.und (Tab.get h.tab he)
       split
       · rename_i n hn
         have sl: ∀ {el:Nat} {ao:Option Addr} {m cap:Nat},e.ty=.slice el→xv=.slice ao m cap→Yields Pr a W ⟨dst,.call ⟨.builtin .len,#[x],#[t]⟩,ty,pos,af,gd⟩ (.int .i64 (m:Int)):=by
          intro el ao m cap hel hv;rw [hel] at hty;have:=zW hty;subst this
          simp [Yields,execOp,resolve,invoke,builtin,hx,hv,Builtin.len_,run_underlying hu,goInt]
         unfold lenQ at hn
         split at hn
         · rename_i l hety
           cases hn;rw [hety] at hty;have:=Zz hty;subst this;cases hm
           exact zA (v:=.int .i64 (l.length:Int)) (by simp [Yields,execOp,resolve,invoke,builtin,hx,Builtin.len_,run_underlying hu,goInt]) (.int _ _)
         · rename_i hety;cases hn;cases hm;exact zA (sl hety rfl) (.int _ _)
         · rename_i u k lo hi hety
           cases hn;obtain⟨ao,n',cap,_,h0,h00,hs⟩:=hm;obtain⟨ao',cap',rfl,h1,_⟩:=hs;have hy:=sl hety rfl
           have e1:((hi.toNat - lo.toNat:Nat):Int)=hi - lo:=by omega
           rw [e1] at hy;exact zA hy (.int _ _)
         · rename_i hety;cases hn;cases hm;exact zA (sl hety rfl) (.int _ _)
         · rename_i hety;cases hn;cases hm;rename_i hm;cases hm;exact zA (sl hety rfl) (.int _ _)
         · rename_i hety
           split at hn
           · rename_i ho
             cases hn;rw [yg] at ho;obtain⟨ao,cap,vs,hk,_⟩:=h.row ho;have hb:=hm.1;rw [zL hk] at hb;cases hb;exact zA (sl hety rfl) (.int _ _)
           · cases hn
         · cases hn
       · exact zq
     · exact zq
   · exact zq
 · rename_i x hargs
   have hargs:args= #[x]:=by apply Array.ext';simpa using hargs
   subst hargs
   split
   · rename_i t hv htys
     have htys:tys= #[t]:=by apply Array.ext';simpa using htys
     subst htys;have hm:=h.one hv;generalize hx:a.eval x=xv at hm
     split
     · rename_i el e1 e2 e3 e4 he
       obtain⟨ds,it,hu,hit,hty,-⟩:=TE.und (Tab.get h.tab he);have:=zW hty;subst this;have hm:xv=.slice none 0 0:=hm;subst hm
       exact zA (v:=.int .i64 0) (by simp [Yields,execOp,resolve,invoke,builtin,hx,Builtin.cap_,run_underlying hu,goInt]) (.int _ _)
     · exact zq
   · exact zq
 · rename_i x y hargs
   have hargs:args= #[x,y]:=by apply Array.ext';simpa using hargs
   subst hargs
   split
   · rename_i k m k' n h1 h2
     have hm1:=h.one h1;have hm2:=h.one h2;generalize hx:a.eval x=xv at hm1;generalize hy:a.eval y=yv at hm2;cases hm1;cases hm2
     split
     · rename_i hk
       have:=tX hk;subst this;refine zA (v:=.int k (alg.imin m n)) ?_ (.int _ _)
       simp [Yields,execOp,resolve,invoke,builtin,hx,hy,Builtin.min_,Builtin.min2,ze1]
       split<;>split<;>omega
     · exact zq
   · exact zq
 · rename_i x y hargs
   have hargs:args= #[x,y]:=by apply Array.ext';simpa using hargs
   subst hargs
   split
   · rename_i k m k' n h1 h2
     have hm1:=h.one h1;have hm2:=h.one h2;generalize hx:a.eval x=xv at hm1;generalize hy:a.eval y=yv at hm2;cases hm1;cases hm2
     split
     · rename_i hk
       have:=tX hk;subst this;refine zA (v:=.int k (alg.imax m n)) ?_ (.int _ _)
       simp [Yields,execOp,resolve,invoke,builtin,hx,hy,Builtin.max_,Builtin.max2,ze2]
       split<;>split<;>omega
     · exact zq
   · exact zq
 · exact zq
def zkx:Op→Bool
 |.load .. |.convert .. =>true
 |_=>false
theorem sN (h:Sit Pr T S K fr st a w) (o:Oper) (hW:zkx o.op=true→Cls S K W):yG Pr S K a W o (qop alg T st o.op):=by
 obtain⟨dst,op,ty,pos,af,gd⟩:=o
 cases op with
 |move x=>exact zms h
 |assign x=>exact zhv h
 |pick c x y=>exact zmo h
 |load t x=>exact zmz h (hW rfl)
 |nilCheck x=>exact zbI h
 |binOp op t x y u=>exact zi6 h
 |typeAssert x xt t ok=>exact zhw h
 |unOp op t x=>exact zl1 h
 |convert s d x=>exact zeM h (hW rfl)
 |makeInterface t x=>exact XJ h
 | slice t x lo hi mx=>cases mx with
   |none=>exact zhQ h
   | some m=>cases lo with
     |some _=>cases hi<;>exact zq
     | none=>cases hi with
       |none=>exact zq
       |some _=>exact zfn h
 |fieldAddr t x f=>exact zbl h
 |field t x f=>exact ziL h
 |indexAddr t x i=>exact za3 h
 |index t x i=>exact ziy h
 |extract x i=>exact zey h
 |build t ps=>exact ziZ h
 |call c=>exact zm3 h
 |_=>exact zq
end
end Go.Ab
namespace Go.Ab
open Go Go.Sep
variable [Facts]
def del (t:Nat):List (Nat × D)→List (Nat × D)
 |[]=>[]
 |(k,d)::r=>match Nat.beq k t with|true=>del t r|false=>(k,d)::del t r
def St.put (st:St) (dst:Option Nat) (d:D):St:=
 match dst with
 |none=>st
 | some t=>match Nat.blt t st.n with
   |true=> { st with env:=(t,d)::del t st.env}
   |false=>st
theorem Qh {t s:Nat} (h:t≠s): ∀ (env:List (Nat × D)),look (del t env) s=look env s
 |[]=>rfl
 | (k,d)::r=>by
   simp only [del]
   split
   · rename_i hk
     have:=jI hk;subst this;simp only [xK,h,if_false];exact Qh h r
   · simp only [xK]
     split
     · rfl
     · exact Qh h r
theorem Env.put {S:Frz} {bs:List Value} {st:St} {a:Act} (h:Env S bs st a) (dst:Option Nat) {d:D} {v:Value} (hm:MD S bs d v):Env S bs (st.put dst d) (a.put dst v):=by
 cases dst with
 |none=>exact h
 | some t=>
   simp only [St.put]
   split
   · rename_i hb
     have hb:t<st.n:=by simpa using hb
     refine⟨by simpa [Act.put] using h.size,h.defers,fun s d' hs=> ?_⟩
     simp only [xK] at hs
     by_cases hts:t=s
     · subst hts
       simp only [if_true,jw] at hs;subst hs
       have:t<a.tmps.size:=by rw [h.size];exact hb
       have e:(a.put (some t) v).tmps.getD t undef=v:=by simp [Act.put,this]
       rw [e];exact hm
     · simp only [hts,if_false] at hs
       rw [Qh hts] at hs;have:=h.slots s d' hs
       have e:(a.put (some t) v).tmps.getD s undef=a.tmps.getD s undef:=by
        simp [Act.put,hts]
       rw [e];exact this
   · rename_i hb
     have hb: ¬ t<st.n:=fun hlt=>by rw [show Nat.blt t st.n=true by simpa using hlt] at hb;cases hb
     have e:a.put (some t) v=a:=by
      cases a;simp only [Act.put,Act.mk.injEq,and_true];have:=h.size;simp only at this
      exact Array.setIfInBounds_eq_of_size_le (by omega)
     rw [e];exact h
theorem zB (K L:List CO):CO.zy (K++L)=CO.zy K++CO.zy L:=by simp [CO.Yy]
theorem xE {α:Type}: ∀ {l:List α} {k:Nat} {c:α},l[k]? =some c→∃ p r,l=p++c::r∧p.length=k∧∀ d,l.set k d=p++d::r
 |[],k,c,h=>by simp at h
 |x::l,0,c,h=>by simp at h;subst h;exact⟨[],l,rfl,rfl,fun d=>rfl⟩
 | x::l,k+1,c,h=>by
   obtain⟨p,r,h1,h2,h3⟩:=xE (l:=l) (k:=k) (c:=c) (by simpa using h)
   exact⟨x::p,r,by rw [h1];rfl,by simp [h2],fun d=>by simp [h3]⟩
theorem zD (a:Chunk) (p r:List Chunk) (c:Chunk) (fr:List Chunk):(a::((p++c::r)++fr)).Perm (c::a::((p++r)++fr)):=by
 have h1:((p++c::r)++fr).Perm (c::((p++r)++fr)):=by
  simp only [jo,List.cons_append];exact List.perm_middle
 exact(h1.cons a).trans (.swap _ _ _)
theorem At.turn {w w':World} {S:Frz} {K:List CO} {fr:List Chunk} (H:At w (frzC S::(CO.zy K++fr))) {k:Nat} {c:CO} (hc:K[k]? =some c) (c':CO)
  (h: ∀ L,At w (c.chunk::frzC S::L)→At w' (c'.chunk::frzC S::L)):At w' (frzC S::(CO.zy (K.set k c')++fr)):=by
 obtain⟨p,r,h1,_,h3⟩:=xE hc;rw [h3,zB];rw [h1,zB] at H;exact(h _ (H.perm (zD _ _ _ _ _))).perm (zD _ _ _ _ _).symm
theorem At.more {w:World} {S:Frz} {K:List CO} {fr:List Chunk} {c:CO} (H:At w (c.chunk::frzC S::(CO.zy K++fr))):At w (frzC S::(CO.zy (K++[c])++fr)):=by
 rw [zB];refine H.perm (List.Perm.symm ?_);have:=zD (frzC S) (CO.zy K) [] c.chunk fr
 simpa [CO.zy] using this
theorem At.void {w:World} {l:List Chunk} (H:At w l):At w (zoZ True::l):=At.pure.2 ⟨trivial,H⟩
theorem yY {K:List CO} {k:Nat} {c c':CO} (hc:K[k]? =some c) (hb:c'.base=c.base):(K.set k c').map CO.base=K.map CO.base:=by
 obtain⟨p,r,h1,_,h3⟩:=xE hc;rw [h3,h1];simp [hb]
theorem HR.set {S:Frz} {bs:List Value} {hp:List HO} {K:List CO} (h:HR S bs hp K) (k:Nat) {o:HO} {c:CO} (hr:Rel S bs o c):HR S bs (hp.set k o) (K.set k c):=by
 refine⟨by simp [h.1],fun i o' c' h1 h2=> ?_⟩
 rw [List.getElem?_set] at h1 h2
 by_cases hk:k=i
 · subst hk
   simp only [if_true] at h1 h2
   split at h1
   · split at h2
     · cases h1;cases h2;exact hr
     · cases h2
   · cases h1
 · rw [if_neg hk] at h1 h2;exact h.2 i o' c' h1 h2
theorem HR.push {S:Frz} {bs:List Value} {hp:List HO} {K:List CO} (h:HR S bs hp K) {o:HO} {c:CO} (hr:Rel S bs o c):HR S bs (hp++[o]) (K++[c]):=by
 refine⟨by simp [h.1],fun i o' c' h1 h2=> ?_⟩
 rcases Nat.lt_trichotomy i hp.length with hi|hi|hi
 · rw [jy hi] at h1
   rw [jy (by rw [← h.1];exact hi)] at h2
   exact h.2 i o' c' h1 h2
 · subst hi
   rw [jA (jL _)] at h1;rw [h.1,jA (jL _)] at h2
   simp at h1 h2
   subst h1;subst h2;exact hr
 · rw [jA (by omega)] at h1
   have:i - hp.length≠0:=by omega
   obtain⟨m,hm⟩: ∃ m,i - hp.length=m+1:=⟨i - hp.length - 1,by omega⟩
   rw [hm] at h1;simp at h1
theorem At.freeze {w:World} {S:Frz} {E size:Nat} {ao:Option Addr} {n cap:Nat} {cs:List Value} {l:List Chunk} (H:At w (rowC E size (.slice ao n cap) n cs::frzC S::l)):
  ∃ S',S.le S'∧At w (frzC S'::l)∧RdS S' size (.slice ao n cap) n cs:=by
 obtain⟨F,A,B,e,dj,hrow,A',B',e',dj',hfrz,hl⟩:=H;obtain⟨hF,hlen,hv⟩:=hrow;obtain⟨hA',h1,h2,h3,h4⟩:=hfrz
 rcases hv with⟨hv,hn⟩|⟨g,cap',cur,fz,hv,hg,hfree,hnc,hcm,hcs,ht⟩
 · cases hv
   have hcs:cs=[]:=List.eq_nil_of_length_eq_zero (by simpa using hlen)
   subst hcs
   exact⟨S,Frz.le.refl S,⟨_,A',B',fun _=>Iff.rfl,dj',⟨hA',h1,h2,h3,h4⟩,hl⟩,fun w' _=>⟨_,0,rfl,jL _,jM _,fun _=>rfl,by simp,fun j u h=>by simp at h⟩⟩
 · cases hv
   have hA: ∀ k,A k↔k=g:=fun k=>by rw [hF k];simp [Value.ownBlock,eq_comm]
   have hgn:S.blk g=none:=by
    cases hS:S.blk g with
    |none=>rfl
    | some o=>
      have:A' g:=(hA' g).2 (by rw [hS];rfl)
      exact(dj g ((hA g).2 rfl) ((e' g).2 (.inl this))).elim
   have hext: ∀ k o,S.blk k=some o→(if k=g then some (.cells cur E fz) else S.blk k)=some o:=fun k o ho=>by
    have:k≠g:=fun hk=>by subst hk;rw [hgn] at ho;cases ho
    simp only [this,if_false];exact ho
   refine⟨S.re S (fun k=>if k=g then some (.cells cur E fz) else S.blk k) rfl rfl rfl hext,⟨rfl,rfl,rfl,hext⟩,⟨F,fun k=>A k∨A' k,B',fun k=>by rw [e k,e' k,or_assoc],?_,⟨fun k=> ?_,h1,h2,h3,fun k o ho=> ?_⟩,hl⟩,fun w' hw'=> ?_⟩
   · rintro k (hk|hk) hB
     · exact dj k hk ((e' k).2 (.inr hB))
     · exact dj' k hk hB
   · show(A k∨A' k)↔(if k=g then some (.cells cur E fz) else S.blk k).isSome=true
     rw [hA k,hA' k]
     by_cases hk:k=g<;>simp [hk]
   · have ho:(if k=g then some (.cells cur E fz) else S.blk k)=some o:=ho
     by_cases hk:k=g
     · subst hk;simp only [if_true,jw] at ho;subst ho;exact hg
     · simp only [hk,if_false] at ho;exact h4 k o ho
   · have hgw:w'.heap[g]? =some (.cells cur E fz):=hw'.2.2.2 g _ (by simp [Frz.re])
     exact Owns.rd ⟨hlen,.inr ⟨g,cap,cur,fz,rfl,hgw,hfree,hnc,hcm,hcs,ht⟩⟩
def C.frz (I:Alg) (k:Nat) (u:U) (l:List u.den):C→C
 |.row j=>match Nat.beq j k with|true=>.p (.list u l)|false=>.row j
 |.sub u' j lo hi=>match Nat.beq j k,Nat.beq u'.size u.size with|true,true=>.p (.list u (I.cut l lo hi))|_,_=>.sub u' j lo hi
 |.ept u' j i off=>match Nat.beq j k,Nat.beq u'.size u.size with|true,true=>.fpt u l i off|_,_=>.ept u' j i off
 |c=>c
def V0.frz (I:Alg) (k:Nat) (u:U) (l:List u.den):V0→V0
 |.one c=>.one (c.frz I k u l)
 |.agg cs=>.agg (cs.map (C.frz I k u l))
def D.frz (I:Alg) (k:Nat) (u:U) (l:List u.den):D→D
 |.v x=>.v (x.frz I k u l)
 |.tup vs=>.tup (vs.map (V0.frz I k u l))
 |.bad=>.bad
def HO.frz (I:Alg) (k:Nat) (u:U) (l:List u.den):HO→HO
 |.obj T cs=>.obj T (cs.map (C.frz I k u l))
 |o=>o
def zlq (I:Alg) (k:Nat) (u:U) (l:List u.den):List (Nat × D)→List (Nat × D)
 |[]=>[]
 |(t,d)::r=>(t,d.frz I k u l)::zlq I k u l r
def setN {α:Type}:List α→Nat→α→List α
 |[],_,_=>[]
 |_::l,0,x=>x::l
 |y::l,n+1,x=>y::setN l n x
theorem yJ {α:Type}: ∀ (l:List α) (n:Nat) (x:α),setN l n x=l.set n x
 |[],_,_=>rfl
 |_::_,0,_=>rfl
 |_::l,n+1,x=>by simp [setN,yJ l n x]
def St.freeze (I:Alg) (st:St) (k:Nat):St:=
 match nth st.hp k with
 |some (.row u _ l)=> { st with env:=zlq I k u l st.env,hp:=setN (st.hp.map (HO.frz I k u l)) k .gone}
 |_=>st
theorem C.uJ {S:Frz} {bs:List Value} {k:Nat} {u:U} {l:List u.den} {ao:Option Addr} {cap:Nat} {vs:List Value} (hb:bs[k]? =some (.slice ao l.length cap)) (hlen:vs.length=l.length * u.size)
  (hx: ∀ (i:Nat) (x:u.den) (j:Nat) (p:P) (v:Value),l[i]? =some x→(enc alg u x)[j]? =some p→vs[i * u.size+j]? =some v→MP S p v) (hr:RdS S u.size (.slice ao l.length cap) l.length vs)
  {c:C} {v:Value} (h:MC S bs c v):MC S bs (c.frz alg k u l) v:=by
 cases c with
 | row j=>
   simp only [C.frz]
   split
   · rename_i hj
     have hj:=jI hj;subst hj;have:=h.1;rw [hb] at this;cases this;exact .list u l ao cap vs hlen hr hx
   · exact h
 | sub u' j lo hi=>
   simp only [C.frz]
   split
   · rename_i hj hu
     have hj:=jI hj;have hu:=jI hu;subst hj;obtain⟨ao',n',cap',hb',h0,h00,hs⟩:=h;rw [hb] at hb';simp only [jw,Value.slice.injEq] at hb';obtain⟨rfl,rfl,rfl⟩:=hb';rw [hu] at hs;have hrd:=fun w' hw'=>hs.rd (hr w' hw');obtain⟨ao2,cap2,rfl,h1,h2,h3,h4,h5,h6⟩:=hs;obtain⟨l2,hl2e⟩: ∃ l2,l2=alg.cut l lo hi:=⟨_,rfl⟩
     have hl2:l2.length=hi.toNat - lo.toNat:=by rw [hl2e,ug];simp;omega
     rw [← hl2e];rw [← hl2] at hrd ⊢
     have hcl:((vs.drop (lo.toNat * u.size)).take (l2.length * u.size)).length=l2.length * u.size:=by
      rw [jv,jC,hlen,hl2]
      have:(hi.toNat - lo.toNat) * u.size≤(l.length - lo.toNat) * u.size:=Nat.mul_le_mul_right _ (by omega)
      rw [Nat.sub_mul l.length] at this;omega
     refine .list u l2 ao2 cap2 _ hcl hrd fun i x j p v hi' hj hv=> ?_;rw [hl2e,ug,jD] at hi'
     split at hi'
     · rw [jG] at hi'
       refine hx (lo.toNat+i) x j p v hi' hj ?_;rw [jD] at hv
       split at hv
       · rw [jG] at hv
         rw [← hv]
         congr 1
         rw [Nat.add_mul];omega
       · cases hv
     · cases hi'
   · exact h
 | ept u' j i off=>
   simp only [C.frz]
   split
   · rename_i hj hu
     have hj:=jI hj;have hu:=jI hu;subst hj;obtain⟨ao',n',cap',hb',h0,rfl⟩:=h;rw [hb] at hb';simp only [jw,Value.slice.injEq] at hb';obtain⟨rfl,rfl,rfl⟩:=hb'
     exact⟨ao,cap,vs,hlen,hr,hx,h0,by rw [hu]⟩
   · exact h
 |p x=>exact h
 |ptr j off=>exact h
 |fpt u l i off=>exact h
 |nilS=>exact h
 |fn f caps=>exact h
 |ifc T agg cs=>exact h
 |any=>exact h
theorem MCs.map {S S':Frz} {bs bs':List Value} {f:C→C} (hf: ∀ c v,MC S bs c v→MC S' bs' (f c) v): ∀ {cs:List C} {vs:List Value},MCs S bs cs vs→MCs S' bs' (cs.map f) vs
 |[],[],_=>trivial
 |_::_,_::_,h=>⟨hf _ _ h.1,MCs.map hf h.2⟩
theorem MVs.map {S S':Frz} {bs bs':List Value} {f:V0→V0} (hf: ∀ c v,MV S bs c v→MV S' bs' (f c) v): ∀ {cs:List V0} {vs:List Value},MVs S bs cs vs→MVs S' bs' (cs.map f) vs
 |[],[],_=>trivial
 |_::_,_::_,h=>⟨hf _ _ h.1,MVs.map hf h.2⟩
theorem V0.uJ {S S':Frz} {bs bs':List Value} {I:Alg} {k:Nat} {u:U} {l:List u.den} (hf: ∀ c v,MC S bs c v→MC S' bs' (c.frz I k u l) v) (c:V0) (v:Value) (h:MV S bs c v):MV S' bs' (c.frz I k u l) v:=by
 cases c with
 |one c=>exact hf c v h
 |agg cs=>obtain⟨vs,h1,h2⟩:=h;exact⟨vs,h1.map hf,h2⟩
theorem D.uJ {S S':Frz} {bs bs':List Value} {I:Alg} {k:Nat} {u:U} {l:List u.den} (hf: ∀ c v,MC S bs c v→MC S' bs' (c.frz I k u l) v) {d:D} {v:Value} (h:MD S bs d v):MD S' bs' (d.frz I k u l) v:=by
 cases d with
 |v x=>exact V0.uJ hf x v h
 |tup vs=>obtain⟨us,h1,h2⟩:=h;exact⟨us,h1.map (V0.uJ hf),h2⟩
 |bad=>trivial
theorem zkJ {I:Alg} {k:Nat} {u:U} {l:List u.den}: ∀ {env:List (Nat × D)} {t:Nat} {d:D},look (zlq I k u l env) t=some d→∃ d',look env t=some d'∧d=d'.frz I k u l
 |[],t,d,h=>by cases h
 | (s,d0)::r,t,d,h=>by
   simp only [zlq,xK] at h ⊢
   split at h
   · rename_i hs;cases h;exact⟨d0,by rw [if_pos hs],rfl⟩
   · rename_i hs;obtain⟨d',h1,h2⟩:=zkJ h;exact⟨d',by rw [if_neg hs];exact h1,h2⟩
theorem zgL {X:Ctx} {st:St} {a:Act} {w:World} {S:Frz} {K:List CO} (hH:Heap X st.hp S K w) (hE:Env S (K.map CO.base) st a) (k:Nat):
  ∃ S' K',S.le S'∧K'.map CO.base=K.map CO.base∧Heap X (st.freeze alg k).hp S' K' w∧Env S' (K'.map CO.base) (st.freeze alg k) a:=by
 obtain⟨h1,h2,h3,h4⟩:=hH;unfold St.freeze
 split
 · rename_i u E l ho
   rw [yg] at ho;obtain⟨c,hc,hr⟩:=h3.get ho
   cases hr with
   | @row _ _ _ _ ao cap vs hlen hx=>
     have hbk:=zL hc;obtain⟨p,r,hp1,hp2,hp3⟩:=xE hc;have H:=h4;rw [hp1,zB] at H;have H:=H.perm (zD _ _ _ _ _);obtain⟨S',hle,hat,hrd⟩:=At.freeze H
     have hf: ∀ c v,MC S (K.map CO.base) c v→MC S' (K.map CO.base) (c.frz alg k u l) v:=fun c v hm=>
      C.uJ (by rw [hbk];rfl) hlen (fun i x j p v a b c=>(hx i x j p v a b c).mono hle) hrd (hm.mono hle (Ext.refl _))
     have hbs:(K.set k (.gone (.slice ao l.length cap))).map CO.base=K.map CO.base:=yY hc rfl
     refine⟨S',K.set k (.gone (.slice ao l.length cap)),hle,hbs,⟨h1.trans hle,by rw [hbs];exact h2,?_,?_⟩,?_⟩
     · rw [hbs]
       simp only;rw [yJ]
       refine HR.set ⟨by simp [h3.1],fun i o' c' e1 e2=> ?_⟩ k .gone
       rw [List.getElem?_map,Option.map_eq_some_iff] at e1;obtain⟨o0,e3,rfl⟩:=e1;have:=h3.2 i o0 c' e3 e2
       cases this with
       |obj hm=>exact .obj (hm.map hf)
       |row a b=>exact .row a fun i x j p v q1 q2 q3=>(b i x j p v q1 q2 q3).mono hle
       |pack a b=>exact .pack a fun i o c q1 q2=>(b i o c q1 q2).mono hle (Ext.refl _)
       |abs a b=>exact .abs a fun i o c q1 q2=>(b i o c q1 q2).mono hle (Ext.refl _)
       |gone=>exact .gone
     · rw [hp3,zB]
       exact(At.void hat).perm (zD _ _ _ _ _).symm
     · rw [hbs]
       refine⟨hE.size,hE.defers.mono hle (Ext.refl _),fun t d hd=> ?_⟩;obtain⟨d',h5,rfl⟩:=zkJ hd;exact D.uJ hf (hE.slots t d' h5)
 · exact⟨S,K,Frz.le.refl S,rfl,⟨h1,h2,h3,h4⟩,hE⟩
end Go.Ab
namespace Go.Ab
open Go Go.Sep
variable [Facts]
inductive LR where
 |ok (d:D) (st:St)
 |need (p:Prop) (r:LR)
 |no
def LR.holds:LR→(D→St→Prop)→Prop
 |.ok d st,K=>K d st
 |.need p r,K=>p∧r.holds K
 |.no,_=>False
def zd6:C→C
 |.p (.val (.bool b))=>.p (.bool b)
 |c=>c
theorem xC {S:Frz} {bs:List Value} (c:C) (v:Value) (h:MC S bs c v):MC S bs (zd6 c) v:=by
 unfold zd6
 split
 · cases h;exact .bool _
 · exact h
def zbu:Option D→Option (List C)
 |some (.v (.one c))=>some [zd6 c]
 |some (.v (.agg cs))=>some (cs.map zd6)
 |_=>none
def zaD:List C→List Nat
 |[]=>[]
 |.row k::cs=>k::zaD cs
 |.sub _ k _ _::cs=>k::zaD cs
 |_::cs=>zaD cs
def xu (I:Alg):List Nat→St→St
 |[],st=>st
 |k::ks,st=>xu I ks (st.freeze I k)
def rowsOf (o:Option D):List Nat:=match zbu o with|some cs=>zaD cs|none=>[]
def znN (I:Alg) (T:Tab) (st:St) (t:Nat) (x v:Operand):LR:=
 match T t,oneC (st.eval x) with
 | some e,some (.ptr k off)=>match zbu (st.eval v),nth st.hp k with
   | some ds,some (.obj ty cs)=>(match Nat.beq ds.length e.size,Nat.ble (off+ds.length) cs.length with
     |true,true=>.ok .bad { st with hp:=setN st.hp k (.obj ty (lay cs off ds))}
     |_,_=>.no)
   |_,_=>.no
 | some e,some (.ept u k i off)=>
   let st1:=xu I (rowsOf (st.eval v)) st
   match zbu (st1.eval v),nth st1.hp k with
   | some ds,some (.row u' E l)=>(match qC (enc I u' (I.get l (dflt u') i)) (lay ((enc I u' (I.get l (dflt u') i)).map C.p) off ds),Nat.beq ds.length e.size,Nat.ble (off+ds.length) u.size,Nat.beq u.size u'.size with
     | some ps,true,true,true=>(match dec I u' ps with
       | some y=>(match qJ I u' ps with
         |some p=>.need p (.need (I.inb i (I.len l)) (.ok .bad { st1 with hp:=setN st1.hp k (.row u' E (I.set l i y))}))
         |none=>.need (I.inb i (I.len l)) (.ok .bad { st1 with hp:=setN st1.hp k (.row u' E (I.set l i y))}))
       |none=>.no)
     |_,_,_,_=>.no)
   |_,_=>.no
 |_,_=>.no
def UB (st:St) (o:HO) (c:C):LR:=.ok (.v (.one c)) { st with hp:=st.hp++[o]}
def zru (T:Tab) (st:St) (t:Nat):LR:=
 match T t with
 |some e=>(match e.zero with|some z=>UB st (.obj t (z.map zc)) (.ptr st.hp.length 0)|none=>.no)
 |none=>.no
def zrE:List P→Nat→Bool
 |[],0=>true
 |.int .u8 (.ofNat 0)::r,n+1=>zrE r n
 |_,_=>false
def arrL (I:Alg) (T:Tab) (st:St) (t:Nat):LR:=
 match T t with
 | some e=>(match e.ty,e.zero with
   |.array n _,some z=>(match zrE z n,Nat.ble n 1000000 with|true,true=>UB st (.row .byte t (I.rep (Int.ofNat n) (I.i2b 0))) (.ept .byte st.hp.length 0 0)|_,_=>.no)
   |_,_=>.no)
 |none=>.no
def boxL (st:St) (t:Nat) (x:Operand):LR:=
 match zbu (st.eval x) with
 |some cs=>UB st (.obj t cs) (.ptr st.hp.length 0)
 |none=>.no
def zre (T:Tab) (st:St) (s d:Nat) (x:Operand):LR:=
 match T s,T d,oneC (st.eval x) with
 | some ⟨.str,_,_,_,_⟩,some ⟨.slice e,_,_,_,some .byte⟩,some (.p (.str l))=>(match T e with
   |some ⟨.int .u8,_,_,_,_⟩=>UB st (.row .byte e l) (.row st.hp.length)
   |_=>.no)
 |_,_,_=>.no
def zvm (I:Alg) (T:Tab) (st:St) (s d:Nat) (x:Operand):LR:=
 match Nat.beq s d,T s,oneC (st.eval x) with
 | true,some ⟨.slice e,_,_,_,_⟩,some (.row k)=>(match T e,nth st.hp k with
   |some ⟨.int .u8,_,_,_,_⟩,some (.row _ _ l)=>.need (I.inb 0 (I.len l)) (.ok (.v (.one (.row k))) st)
   |_,_=>.no)
 |_,_,_=>.no
def zxL (T:Tab) (s:Nat):Bool:=match T s with|some ⟨.str,_,_,_,_⟩=>true|_=>false
def zm2:(u u':U)→List u'.den→Option (List u.den)
 |.byte,.byte,l=>some l
 |.int,.int,l=>some l
 |.str,.str,l=>some l
 |.fld,.fld,l=>some l
 |.bytes,.bytes,l=>some l
 |.hd,.hd,l=>some l
 |.prt,.prt,l=>some l
 |.evt,.evt,l=>some l
 |.upl,.upl,l=>some l
 |.ent,.ent,l=>some l
 |.stp,.stp,l=>some l
 |.ask,.ask,l=>some l
 |.cal,.cal,l=>some l
 |.tri,.tri,l=>some l
 |.lst,.lst,l=>some l
 |.sst,.sst,l=>some l
 |.upls,.upls,l=>some l
 |.strs,.strs,l=>some l
 |.rpl,.rpl,l=>some l
 |.med,.med,l=>some l
 |.prw,.prw,l=>some l
 |_,_,_=>none
theorem V6 {u u':U} {l:List u'.den} {m:List u.den} (h:zm2 u u' l=some m): ∃ e:u'=u,e▸l=m:=by
 cases u<;>cases u'<;>first|(cases h;exact⟨rfl,rfl⟩)|cases h
def zrX (I:Alg) (hp:List HO) (u:U) (c:C):Option (List u.den):=
 match c with
 |.nilS=>some []
 |.p (.str l)=>zm2 u .byte l
 | c=>match cont I hp c with
   |some ⟨u',l⟩=>zm2 u u' l
   |none=>none
def fewL (I:Alg) (bytes:Nat) (n:Int) (r:LR):LR:=match Nat.ble bytes 1 with|true=>.need (I.few n 140737488355328) r|false=>.need (I.few n 100000000) r
def zi8 (I:Alg) (T:Tab) (st:St) (t ut:Nat) (s x:Operand):LR:=
 match T t,T ut,oneC (st.eval s),oneC (st.eval x) with
 | some ⟨.slice E,_,_,_,some u⟩,some ue,some cs,some cx=>(match ue.ty with
   |.int _=>.no
   |.other=>.no
   | _ =>match T E,zrX I st.hp u cx with
     | some ee,some m=>(match Nat.ble ee.bytes 1000000,ee.zero with
       | true,some _=>(match cs with
         |.nilS=>fewL I ee.bytes (I.len m) (.ok (.v (.one (.row st.hp.length))) { st with hp:=st.hp++[.row u E m]})
         |.p (.nl l)=>.need (I.same (I.len l) 0) (fewL I ee.bytes (I.len m) (.ok (.v (.one (.row st.hp.length))) { st with hp:=st.hp++[.row u E m]}))
         | .row k=>(match nth st.hp k with
           | some (.row u' E' l')=>(match Nat.beq E E',zm2 u u' l' with
             |true,some l=>fewL I ee.bytes (I.add (I.len l) (I.len m)) (.ok (.v (.one (.row st.hp.length))) { st with hp:=setN st.hp k .gone++[.row u E (I.app l m)]})
             |_,_=>.no)
           |_=>.no)
         |_=>.no)
       |_,_=>.no)
     |_,_=>.no)
 |_,_,_,_=>.no
def elems (I:Alg) (z:List P) (u:U):List (Option D)→Option (List u.den × List Prop)
 |[]=>some ([],[])
 | d ::ds=>match zbu d with
   | some cs=>(match qC z cs with
     | some ps=>(match dec I u ps,elems I z u ds with
       |some x,some (l,ns)=>(match qJ I u ps with|some p=>some (x::l,p::ns)|none=>some (x::l,ns))
       |_,_=>none)
     |none=>none)
   |none=>none
def inOrder:Nat→List Nat→Bool
 |_,[]=>true
 |n,k::ks=>match Nat.beq n k with|true=>inOrder (n+1) ks|false=>false
def zky:List Prop→LR→LR
 |[],r=>r
 |p::ps,r=>.need p (zky ps r)
def XU (I:Alg) (T:Tab) (st:St) (t n:Nat) (parts:Array (Nat × Operand)):LR:=
 let st1:=xu I (parts.toList.flatMap fun p=>rowsOf (st.eval p.2)) st
 match T t with
 | some e=>(match e.ty,e.u with
   | .slice E,some u=>(match T E with
     |none=>.no
     | some ee=>match ee.zero with
       |none=>.no
       | some z=>match inOrder 0 (parts.toList.map (·.1)),Nat.beq n parts.toList.length,Nat.ble n 1000,elems I z u (parts.toList.map fun p=>st1.eval p.2) with
         |true,true,true,some (l,ns)=>zky ns (UB st1 (.row u E l) (.row st1.hp.length))
         |_,_,_,_=>.no)
   |_,_=>.no)
 |none=>.no
def zvQ (I:Alg) (T:Tab) (st:St) (t:Nat) (x y:Operand):LR:=
 match T t,intC (st.eval x),intC (st.eval y) with
 | some e,some n,some m=>(match e.ty,e.u with
   | .slice E,some u=>(match T E with
     | some ee=>(match ee.zero,Nat.beq ee.size 1,Nat.ble ee.bytes 1000 with
       | some z,true,true=>(match dec I u z,qJ I u z with
         |some d,none=>.need (I.same n m) (.need (I.nng n) (.need (I.few n 1000000) (UB st (.row u E (I.rep n d)) (.row st.hp.length))))
         |some d,some p=>.need p (.need (I.same n m) (.need (I.nng n) (.need (I.few n 1000000) (UB st (.row u E (I.rep n d)) (.row st.hp.length)))))
         |_,_=>.no)
       |_,_,_=>.no)
     |none=>.no)
   |_,_=>.no)
 |_,_,_=>.no
def zeY (I:Alg) (T:Tab) (st:St) (t ut:Nat) (s x:Operand):LR:=
 match T t,T ut,oneC (st.eval s),intC (st.eval x) with
 | some ⟨.slice E,_,_,_,some u⟩,some ⟨.int _,_,_,_,_⟩,some .nilS,some n=>(match T E with
   | some ee=>(match Nat.ble ee.bytes 1000,ee.zero with
     | true,some z=>(match dec I u z,qJ I u z with
       |some d,none=>.need (I.nng n) (.need (I.few n 1000000) (UB st (.row u E (I.rep n d)) (.row st.hp.length)))
       |some d,some p=>.need p (.need (I.nng n) (.need (I.few n 1000000) (UB st (.row u E (I.rep n d)) (.row st.hp.length))))
       |_,_=>.no)
     |_,_=>.no)
   |none=>.no)
 |_,_,_,_=>.no
def zxN (T:Tab) (s:Nat):Bool:=match T s with|some ⟨.int _,_,_,_,_⟩=>true|_=>false
def zq6 (I:Alg) (T:Tab) (st:St) (t:Nat) (x:Operand):LR:=
 match T t,oneC (st.eval x) with
 | some ⟨.slice E,_,_,_,_⟩,some (.sub u k lo hi)=>(match T E,nth st.hp k with
   | some ee,some (.row u' E' l)=>(match ee.zero,Nat.beq u.size u'.size,Nat.beq ee.size u'.size with
     | some z,true,true=>(match dec I u' z,qJ I u' z with
       |some d,none=>.need (I.cutb lo hi (I.len l)) (.ok (.tup []) { st with hp:=setN st.hp k (.row u' E' (I.app (I.cut l 0 lo) (I.app (I.rep (I.sub hi lo) d) (I.cut l hi (I.len l)))))})
       |_,_=>.no)
     |_,_,_=>.no)
   |_,_=>.no)
 |_,_=>.no
def lop (I:Alg) (T:Tab) (st:St):Op→LR
 |.store t x v=>znN I T st t x v
 |.alloc t=>zru T st t
 |.box t x=>boxL st t x
 |.buildSlice t n parts=>XU I T st t n parts
 |.makeSlice t x y=>zvQ I T st t x y
 |.convert s d x=>(match zxL T s with|true=>zre T st s d x|false=>zvm I T st s d x)
 | .call c=>match c.callee,c.args.toList,c.argTypes.toList with
   |.builtin .append,[s,x],[t,u]=>(match zxN T u with|true=>zeY I T st t u s x|false=>zi8 I T st t u s x)
   |.builtin .clear,[x],[t]=>zq6 I T st t x
   |_,_,_=>.no
 |_=>.no
section
variable {Pr:Program} {T:Tab} {X:Ctx} {st:St} {a:Act} {w:World} {S:Frz} {K:List CO}
def Does (Pr:Program) (a:Act) (w:World) (o:Oper) (v:Value) (w':World):Prop:=
 (execOp a.eval o).run Pr w=.ok (.value v) w'∨((execOp a.eval o).run Pr w=.ok .skip w'∧v=undef)
def wz (Pr:Program) (X:Ctx) (S:Frz) (K:List CO) (a:Act) (w:World) (o:Oper) (r:LR):Prop:=
 ∀ Q:D→St→Prop,r.holds Q→∃ v w' S' K' d st',Does Pr a w o v w'∧S.le S'∧Ext (K.map CO.base) (K'.map CO.base)∧Heap X st'.hp S' K' w'∧Env S' (K'.map CO.base) st' a∧MD S' (K'.map CO.base) d v∧Q d st'
variable {dst:Option Tmp} {ty:TypeId} {pos:String} {af:Array Edge} {gd:Option (Nat × Bool)}
theorem lno {o:Oper}:wz Pr X S K a w o .no:=fun _ hq=>hq.elim
theorem SA {o:Oper} {p:Prop} {r:LR} (h:p→wz Pr X S K a w o r):wz Pr X S K a w o (.need p r):=fun Q hq=>h hq.1 Q hq.2
theorem Heap.sit (hT:T.fits Pr) (hH:Heap X st.hp S K w) (hE:Env S (K.map CO.base) st a):Sit Pr T S K X.fr st a w:=⟨hT,hH.2.2.1,hH.2.2.2,hE⟩
theorem sF (hH:Heap X st.hp S K w) (hE:Env S (K.map CO.base) st a) {o:Oper} {v:Value} {w':World} {ho:HO} {co:CO} {c:C} (hd:Does Pr a w o v w')
  (hw: ∀ L,At w L→At w' (co.chunk::L)) (hr:Rel S ((K++[co]).map CO.base) ho co) (hm:MC S ((K++[co]).map CO.base) c v):wz Pr X S K a w o (UB st ho c):=by
 intro Q hq
 have he:Ext (K.map CO.base) ((K++[co]).map CO.base):=by rw [List.map_append];exact Ext.append _ _
 refine⟨v,w',S,K++[co],.v (.one c),{ st with hp:=st.hp++[ho]},hd,Frz.le.refl S,he,⟨hH.1,fun k v h=>he k v (hH.2.1 k v h),?_,?_⟩,⟨hE.size,hE.defers.mono (Frz.le.refl S) he,fun t d h=>(hE.slots t d h).mono (Frz.le.refl S) he⟩,hm,hq⟩
 · exact(hH.2.2.1.mono (Frz.le.refl S) he).push hr
 · exact At.more (hw _ hH.2.2.2)
theorem qA {bs:List Value} {d:Option D} {cs:List C} {x:Value} (h:zbu d=some cs) (hm: ∀ d',d=some d'→MD S bs d' x): ∃ vs:List Value,x.cells=vs.toArray∧MCs S bs cs vs:=by
 unfold zbu at h
 split at h
 · rename_i c
   cases h;have h0:=hm _ rfl;have h1:=MC.one (S:=S) (bs:=bs) h0;refine⟨[x],?_,xC _ _ h0,trivial⟩
   cases x<;>first|rfl|(simp [Value.oneCell'] at h1)
 · cases h
   obtain⟨vs,hvs,rfl⟩:=hm _ rfl;exact⟨vs,rfl,hvs.map xC⟩
 · cases h
theorem yZ (K:List CO) (c:CO):((K++[c]).map CO.base)[K.length]? =some c.base:=by simp
theorem zi9 (hT:T.fits Pr) (hH:Heap X st.hp S K w) (hE:Env S (K.map CO.base) st a) {t:Nat}:wz Pr X S K a w ⟨dst,.alloc t,ty,pos,af,gd⟩ (zru T st t):=by
 unfold zru
 split
 · rename_i e he
   split
   · rename_i z hz
     obtain⟨i,zv,hi,hzv,hzf,hzl⟩:=TE.zero' (Tab.get hT he) hz;refine sF (v:=.pointer (some ⟨w.heap.size,0,none⟩)) (w':=w.alloc (.cells zv.cells t)) (co:=.obj w.heap.size t zv.cells.toList) hH hE (.inl ?_) (fun L hL=> ?_) ?_ ?_
     · simp [execOp,Instr.alloc,newVar,newRow,zeroValue,typeInfo,hi,hzv]
     · have:=hL.zlY zv.cells.toList t
       simpa [CO.chunk] using this
     · exact .obj (zjh hzf)
     · rw [hH.2.2.1.1]
       exact⟨_,yZ _ _,rfl⟩
   · exact lno
 · exact lno
theorem qB {S:Frz} (l:Str):(bvs l).length=l.length * U.byte.size∧∀ (i:Nat) (x:U.byte.den) (j:Nat) (p:P) (v:Value),l[i]? =some x→(enc alg .byte x)[j]? =some p→(bvs l)[i * U.byte.size+j]? =some v→MP S p v:=by
 refine⟨by simp [U.size],fun i x j p v hi hj hv=> ?_⟩
 cases j with
 | zero=>
   simp only [enc,List.getElem?_cons_zero,jw] at hj;subst hj;simp only [U.size,Nat.mul_one,Nat.add_zero] at hv;rw [bvs_getElem?,hi] at hv;cases hv;exact .int _ _
 |succ j=>simp [enc] at hj
theorem zbN: ∀ {z:List P} {n:Nat} {vs:List Value},zrE z n=true→yH vs z=true→vs=bvs (List.replicate n 0)
 | [],n,vs,h1,h2=>by
   cases n with
   | zero=>cases vs with
     |nil=>rfl
     |cons v vs=>unfold yH at h2;split at h2<;>simp_all
   |succ n=>cases h1
 | p ::z,n,vs,h1,h2=>by
   unfold zrE at h1
   split at h1
   · rename_i e;cases e
   · rename_i r n' e
     cases e;unfold yH at h2
     split at h2
     · rename_i e2;cases e2
     · rename_i k vs' k' ps e2
       cases e2;simp only [jK] at h2;rw [tX h2.1,zbN h1 h2.2];rfl
     all_goals first|(rename_i e2;cases e2;done)|(cases h2;done)|(rename_i e2;injection e2 with e3 e4;cases e3)
   · cases h1
theorem zrp (hT:T.fits Pr) (hH:Heap X st.hp S K w) (hE:Env S (K.map CO.base) st a) {t:Nat}:wz Pr X S K a w ⟨dst,.alloc t,ty,pos,af,gd⟩ (arrL alg T st t):=by
 unfold arrL
 split
 · rename_i e he
   split
   · rename_i n el z hety hz
     split
     · rename_i hb1 hb2
       have hb2:=Nat.le_of_ble_eq_true hb2;obtain⟨i,zv,hi,hzv,hzf,hzl⟩:=TE.zero' (Tab.get hT he) hz;have hvs:=zbN hb1 hzf;obtain⟨h1,h2⟩:=qB (S:=S) (List.replicate n 0);have hrep:alg.rep (Int.ofNat n) (alg.i2b 0)=List.replicate n (0:UInt8):=rfl;rw [hrep]
       have hcs:zv.cells.size=n * 1:=by rw [← Array.length_toList,hvs];simp
       refine sF (v:=.pointer (some ⟨w.heap.size,0,none⟩)) (w':=w.alloc (.cells zv.cells t)) (co:=.row t 1 (some ⟨w.heap.size,0,none⟩) (List.replicate n (0:UInt8)).length n (bvs (List.replicate n 0))) hH hE (.inl ?_) (fun L hL=> ?_) ?_ ?_
       · simp [execOp,Instr.alloc,newVar,newRow,zeroValue,typeInfo,hi,hzv]
       · have:=hL.QX t 1 n zv.cells (0,0) hcs (by simp only [maxLen];omega) (vF _)
         rw [hvs] at this
         simpa [CO.chunk] using this
       · exact .row (u:=.byte) h1 h2
       · rw [hH.2.2.1.1]
         exact⟨_,_,_,yZ _ _,Int.le_refl _,by simp [adr,blk,ofs]⟩
     · exact lno
   · exact lno
 · exact lno
theorem Heap.eval (hT:T.fits Pr) (hH:Heap X st.hp S K w) (hE:Env S (K.map CO.base) st a) (x:Operand): ∀ d,st.eval x=some d→MD S (K.map CO.base) d (a.eval x):=fun _ hd=>(hH.sit hT hE).eval hd
theorem zrf (hT:T.fits Pr) (hH:Heap X st.hp S K w) (hE:Env S (K.map CO.base) st a) {t:Nat} {x:Operand}:wz Pr X S K a w ⟨dst,.box t x,ty,pos,af,gd⟩ (boxL st t x):=by
 unfold boxL
 split
 · rename_i cs hcs
   obtain⟨vs,hvc,hm⟩:=qA hcs (hH.eval hT hE x)
   have he:Ext (K.map CO.base) ((K++[CO.obj w.heap.size t vs]).map CO.base):=by rw [List.map_append];exact Ext.append _ _
   refine sF (v:=.pointer (some ⟨w.heap.size,0,none⟩)) (w':=w.alloc (.cells vs.toArray t)) (co:=.obj w.heap.size t vs) hH hE (.inl ?_) (fun L hL=> ?_) (.obj (hm.mono (Frz.le.refl S) he)) ?_
   · simp [execOp,Instr.box,newVar,newRow,hvc]
   · simpa [CO.chunk] using hL.zlY vs t
   · rw [hH.2.2.1.1]
     exact⟨_,yZ _ _,rfl⟩
 · exact lno
theorem ziY (hT:T.fits Pr) (hH:Heap X st.hp S K w) (hE:Env S (K.map CO.base) st a) {s d:Nat} {x:Operand}:wz Pr X S K a w ⟨dst,.convert s d x,ty,pos,af,gd⟩ (zre T st s d x):=by
 unfold zre
 split
 · rename_i s1 s2 s3 s4 e d1 d2 d3 l hs hd hc
   split
   · rename_i e1 e2 e3 e4 he
     have hm:=(hH.sit hT hE).one hc;obtain⟨ds,is,hus,-,htys,-⟩:=TE.und (Tab.get hT hs);obtain⟨dd,id,hud,-,htyd,-⟩:=TE.und (Tab.get hT hd);obtain⟨de,ie,hue,-,htye,-⟩:=TE.und (Tab.get hT he);have:=zW htyd;subst this;have:=fits_int htye;subst this;generalize hx:a.eval x=xv at hm
     cases hm with
     | str _ hl=>
       have hge:=grownCap_ge w l.length 0 e;obtain⟨h1,h2⟩:=qB (S:=S) l;refine sF (v:=.slice (some ⟨w.heap.size,0,none⟩) l.length (grownCap w l.length 0 e)) (w':=Lib.bytesWorld w e (Sep.S l)) (co:=.row e 1 (some ⟨w.heap.size,0,none⟩) l.length (grownCap w l.length 0 e) (bvs l)) hH hE (.inl ?_) (fun L hL=> ?_) ?_ ?_
       · have:=Lib.run_convert_string_bytes w s d e (Sep.S l) hus hud hue
         simp only [zuU] at this;simp only [execOp,hx,Sem.run_bind,this,Result.andThen_ok,Sem.run_pure]
       · refine hL.new (A':=fun k=>k=w.heap.size) ⟨fun k=>⟨fun h=>by rw [h];rfl,fun h=>by cases h;rfl⟩,by simp,.inr ⟨w.heap.size,_,_,_,rfl,Lib.bytesWorld_at_new w e (Sep.S l),?_,hge,grownCap_le_maxLen w l.length 0 e hl,?_,?_⟩⟩ (fun k h=>by omega) ⟨rfl,rfl,rfl,by rw [Lib.bytesWorld_size];omega,fun k hk=>Lib.bytesWorld_at_old w e (Sep.S l) k hk⟩
         · exact .inr (jL _)
         · simp [Lib.bytesCells];omega
         · rw [Nat.mul_one,Lib.bytesCells,Array.toList_append,List.take_left' (by simp)]
           simp [bvs,bv]
       · exact .row (u:=.byte) h1 h2
       · rw [hH.2.2.1.1]
         exact⟨yZ _ _,_,_,_,rfl⟩
   · exact lno
 · exact lno
theorem ziu: ∀ (vs us:List Value) (o:Nat),o+vs.length≤us.length→layV us o vs=us.take o++vs++us.drop (o+vs.length)
 |[],us,o,_=>by simp [layV]
 | v::vs,us,o,h=>by
   simp only [layV]
   rw [ziu vs (us.set o v) (o+1) (by simp at h ⊢;omega)]
   exact list_seg_step us o v vs (by simp at h;omega)
theorem WH {t:Nat} {g off:Nat} {cur:Array Value} {E:Nat} {fz:Nat × Nat} {v:Value} {vs:List Value} (hv:v.cells=vs.toArray) (h1: ∀ x ∈ vs,x.oneCell'=true) (hs:(Pr.info? t).map (·.size)=some vs.length)
  (hg:w.heap[g]? =some (.cells cur E fz)) (hfz:Free fz cur.size) (hl:off+vs.length≤cur.size):
  (Instr.storeAt t (.pointer (some ⟨g,off,none⟩)) v).run Pr w=.ok () (w.setRow g (layV cur.toList off vs).toArray):=by
 obtain⟨inf,hi,hz⟩: ∃ inf,Pr.info? t=some inf∧inf.size=vs.length:=by
  cases h:Pr.info? t with
  |none=>simp [h] at hs
  |some inf=>exact⟨inf,rfl,by simpa [h] using hs⟩
 have hst:=yK Pr g off E fz vs 0 cur w hg hfz (by omega) h1
 rw [ziu vs cur.toList off (by simpa using hl)]
 simp only [Nat.add_zero] at hst
 simp [Instr.storeAt,Instr.sureAddr,storeVar,sizeOf,typeInfo,hi,hz,hv,hst]
theorem zkL: ∀ (us p m r:List Value) (off:Nat),off+us.length≤m.length→layV (p++m++r) (p.length+off) us=p++layV m off us++r
 |[],p,m,r,off,_=>rfl
 | u ::us,p,m,r,off,h=>by
   have h1:off<m.length:=by simp at h;omega
   have e:(p++m++r).set (p.length+off) u=p++m.set off u++r:=by
    rw [jo,List.set_append_right _ _ (by omega),Nat.add_sub_cancel_left,List.set_append_left _ _ h1,jo]
   simp only [layV];rw [e,Nat.add_assoc]
   exact zkL us p _ r (off+1) (by simp at h ⊢;omega)
theorem MCs.lay {bs:List Value} {ds cs:List C} {vs us:List Value} (o:Nat) (h1:MCs S bs ds vs) (h2:MCs S bs cs us):MCs S bs (lay cs o ds) (layV us o vs):=zaZ o h1 h2
theorem XL: ∀ (ds cs:List Value) (o:Nat),(layV cs o ds).length=cs.length
 |[],cs,o=>rfl
 |d::ds,cs,o=>by simp only [layV];rw [XL ds];simp
theorem yM (hH:Heap X st.hp S K w) (hE:Env S (K.map CO.base) st a) (ks:List Nat):
  ∃ S' K',S.le S'∧K'.map CO.base=K.map CO.base∧Heap X (xu alg ks st).hp S' K' w∧Env S' (K'.map CO.base) (xu alg ks st) a:=by
 induction ks generalizing st S K with
 |nil=>exact⟨S,K,Frz.le.refl S,rfl,hH,hE⟩
 | cons k ks ih=>
   obtain⟨S1,K1,h1,h2,h3,h4⟩:=zgL hH hE k;obtain⟨S2,K2,h5,h6,h7,h8⟩:=ih h3 h4;exact⟨S2,K2,h1.trans h5,h6.trans h2,h7,h8⟩
theorem zvr {u:U} {l:List u.den} {vs:List Value} (hlen:vs.length=l.length * u.size)
  (hx: ∀ (i:Nat) (x:u.den) (j:Nat) (p:P) (v:Value),l[i]? =some x→(enc alg u x)[j]? =some p→vs[i * u.size+j]? =some v→MP S p v) {i:Nat} (hi:i<l.length) {y:u.den} {us:List Value} (hm:MPs S (enc alg u y) us):
  (vs.take (i * u.size)++us++vs.drop (i * u.size+u.size)).length=(l.set i y).length * u.size∧
  ∀ (i':Nat) (x:u.den) (j:Nat) (p:P) (v:Value),(l.set i y)[i']? =some x→(enc alg u x)[j]? =some p→(vs.take (i * u.size)++us++vs.drop (i * u.size+u.size))[i' * u.size+j]? =some v→MP S p v:=by
 have hul:us.length=u.size:=by rw [hm.length,xO]
 have hle:i * u.size+u.size≤vs.length:=by rw [hlen,← Nat.succ_mul];exact Nat.mul_le_mul_right _ hi
 refine⟨by simp only [jk,jv,jC,List.length_set,hul];rw [← hlen];omega,fun i' x j p v h1 h2 h3=> ?_⟩
 have hj:j<u.size:=by have:=(jl.1 h2).1;rw [xO] at this;exact this
 rw [List.getElem?_set] at h1
 rcases Nat.lt_trichotomy i' i with hlt|heq|hgt
 · rw [if_neg (by omega)] at h1
   have h4:i' * u.size+j<i * u.size:=by
    have:i' * u.size+u.size≤i * u.size:=by rw [← Nat.succ_mul];exact Nat.mul_le_mul_right _ hlt
    omega
   rw [jo,jy (by simp;omega),jD,if_pos h4] at h3
   exact hx i' x j p v h1 h2 h3
 · subst heq
   rw [if_pos rfl,if_pos hi] at h1;cases h1
   rw [jo,jA (by simp;omega),jy (by simp;omega)] at h3
   have e1:i' * u.size+j - (vs.take (i' * u.size)).length=j:=by rw [jv];omega
   rw [e1] at h3;obtain⟨v',h5,h6⟩:=hm.get h2;rw [h5] at h3;cases h3;exact h6
 · rw [if_neg (by omega)] at h1
   have h4:i * u.size+u.size≤i' * u.size:=by rw [← Nat.succ_mul];exact Nat.mul_le_mul_right _ hgt
   rw [jA (by simp;omega)] at h3
   rw [jG] at h3;refine hx i' x j p v h1 h2 ?_;rw [← h3]
   congr 1
   simp only [jk,jv,hul];omega
theorem zhK (hT:T.fits Pr) (hH:Heap X st.hp S K w) (hE:Env S (K.map CO.base) st a) {t:Nat} {x y:Operand}:wz Pr X S K a w ⟨dst,.store t x y,ty,pos,af,gd⟩ (znN alg T st t x y):=by
 intro Q hq;unfold znN at hq
 split at hq
 · rename_i e k off he hc
   have hf:=Tab.get hT he
   split at hq
   · rename_i ds ty' cs hds ho
     split at hq
     · rename_i hb1 hb2
       have hb1:=jI hb1;have hb2:=Nat.le_of_ble_eq_true hb2;rw [yg] at ho;have hsit:=hH.sit hT hE;obtain⟨b,vs,L,hk,hm,hat⟩:=hsit.obj ho;have hpt:=hsit.one hc;obtain⟨us,hvc,hum⟩:=qA hds (hH.eval hT hE y);generalize hx:a.eval x=xv at hpt;obtain⟨b',hb',rfl⟩:=hpt;rw [zL hk] at hb';simp only [CO.base,jw,Value.pointer.injEq,Addr.mk.injEq,and_true] at hb';subst hb';have hl1:=hm.length;have hl2:=hum.length
       have hrun:=WH (Pr:=Pr) (t:=t) (off:=off) hvc hum.one (by rw [TE.size' hf,hl2,hb1]) hat.obj (vF _) (by simp;omega)
       have hbs:(K.set k (.obj b ty' (layV vs off us))).map CO.base=K.map CO.base:=yY hk rfl
       refine⟨undef,w.setRow b (layV vs off us).toArray,S,K.set k (.obj b ty' (layV vs off us)),.bad,{ st with hp:=setN st.hp k (.obj ty' (lay cs off ds))},.inr ⟨?_,rfl⟩,Frz.le.refl S,by rw [hbs];exact Ext.refl _,⟨hH.1,by rw [hbs];exact hH.2.1,?_,?_⟩,?_,trivial,hq⟩
       · simp only [execOp,hx,Sem.run_bind,hrun,Result.andThen_ok,Sem.run_pure]
       · rw [hbs]
         simp only;rw [yJ];exact hH.2.2.1.set k (.obj (MCs.lay off hum hm))
       · refine At.turn hH.2.2.2 hk _ fun L hL=> ?_
         refine hL.step fun A hA=>⟨A,⟨hA.1,?_⟩,fun _ h=>.inl h,(uG w b _).mono fun k hk e=>hk.2 ((hA.1 k).2 e)⟩;exact setRow_heap w b _ _ ty' (0,0) hA.2
       · rw [hbs];exact⟨hE.size,hE.defers,hE.slots⟩
     · exact hq.elim
   · exact hq.elim
 · rename_i e u k i off he hc
   have hf:=Tab.get hT he;obtain⟨S1,K1,hle1,hbs1,hH1,hE1⟩:=yM hH hE (rowsOf (st.eval y));simp only at hq;generalize hst1:xu alg (rowsOf (st.eval y)) st=st1 at hq hH1 hE1
   split at hq
   · rename_i ds u' E l hds ho
     split at hq
     · rename_i ps hps hb1 hb2 hb3
       have hb1:=jI hb1;have hb2:=Nat.le_of_ble_eq_true hb2;have hb3:=jI hb3
       split at hq
       · rename_i z hz
         have fin:(∀ p,qJ alg u' ps=some p→p)→alg.inb i (alg.len l)→Q .bad { st1 with hp:=setN st1.hp k (.row u' E (alg.set l i z))}→
           ∃ v w' S' K' d st',Does Pr a w ⟨dst,.store t x y,ty,pos,af,gd⟩ v w'∧S.le S'∧Ext (K.map CO.base) (K'.map CO.base)∧Heap X st'.hp S' K' w'∧Env S' (K'.map CO.base) st' a∧MD S' (K'.map CO.base) d v∧Q d st':=by
          intro hneed hinb hQ;have hpt:=(hH.sit hT hE).one hc;rw [← hbs1] at hpt;rw [yg] at ho;obtain⟨ao,cap,vs,hk,hlen,hxs,hrd⟩:=(hH1.sit hT hE1).row ho;obtain⟨us,hvc,hum⟩:=qA hds (hH1.eval hT hE1 y);generalize hx:a.eval x=xv at hpt;obtain⟨ao',n',cap',hb',hi0,rfl⟩:=hpt;rw [zL hk] at hb';simp only [CO.base,jw,Value.slice.injEq] at hb';obtain⟨rfl,rfl,rfl⟩:=hb';have hl2:=hum.length;obtain⟨hold,hold2⟩:=U7 hlen hxs hinb;have hnew:=MCs.lay (bs:=K1.map CO.base) off hum (hold.mcs);have hnp:=yV hps hnew;have hnp:=VT hz hneed hnp;rw [ZM,zN] at hinb
          have hilt:i.toNat<l.length:=by omega
          obtain⟨hr1,hr2⟩:=zvr hlen hxs hilt hnp;obtain⟨L,hat⟩:=(hH1.sit hT hE1).chunk hk;obtain⟨A,hA⟩:=hat.head
          obtain⟨hF,hA2,⟨hv,hn0⟩|⟨g,cap2,cur,fz,hv,hg,hfree,hnc,hcm,hcs,ht⟩⟩:=hA
          · omega
          cases hv
          have hle:i.toNat * u'.size+u'.size≤l.length * u'.size:=by rw [← Nat.succ_mul];exact Nat.mul_le_mul_right _ hilt
          have hle2:=Nat.mul_le_mul_right u'.size hnc;rw [hb3] at hb2 hx
          have hrun:=WH (Pr:=Pr) (w:=w) (t:=t) (off:=i.toNat * u'.size+off) hvc hum.one (by rw [TE.size' hf,hl2,hb1]) hg hfree (by omega)
          obtain⟨p,m,r,hpm,hp,hml⟩: ∃ p m r,cur.toList=p++m++r∧p.length=i.toNat * u'.size∧m.length=u'.size:=
           ⟨cur.toList.take (i.toNat * u'.size),(cur.toList.drop (i.toNat * u'.size)).take u'.size,(cur.toList.drop (i.toNat * u'.size)).drop u'.size,by rw [jo,List.take_append_drop,List.take_append_drop],by simp;omega,by simp;omega⟩
          have e1:layV cur.toList (i.toNat * u'.size+off) us=p++layV m off us++r:=by
           rw [hpm,← hp];exact zkL us p m r off (by omega)
          have hvs:vs=p++m++r.take (l.length * u'.size - (p++m).length):=by
           rw [← ht,hpm,List.take_append,jq (by simp;omega)]
          have e2:(vs.drop (i.toNat * u'.size)).take u'.size=m:=by
           rw [hvs,← hp,jo,List.drop_left,← hml,List.take_left]
          have e3:vs.take (i.toNat * u'.size)=p:=by rw [hvs,← hp,jo,List.take_left]
          have e4:vs.drop (i.toNat * u'.size+u'.size)=r.take (l.length * u'.size - (p++m).length):=by
           rw [hvs,show i.toNat * u'.size+u'.size=(p++m).length by simp;omega,List.drop_left]
          rw [e1] at hrun;rw [e2] at hr1 hr2;rw [e3,e4] at hr1 hr2;have hml2:(layV m off us).length=m.length:=XL _ _ _
          have e5:(p++layV m off us++r).take (l.length * u'.size)=p++layV m off us++r.take (l.length * u'.size - (p++m).length):=by
           rw [List.take_append,jq (by simp;omega)]
           simp [hml2]
          have hcl:(p++layV m off us++r).length=cur.size:=by
           have:cur.toList.length=cur.size:=by simp
           rw [← this,hpm];simp [hml2]
          have hsl:(alg.set l i z).length=l.length:=by rw [zjb];simp
          have hbs:(K1.set k (.row E u'.size (some ⟨g,0,none⟩) (alg.set l i z).length cap (p++layV m off us++r.take (l.length * u'.size - (p++m).length)))).map CO.base=K1.map CO.base:=yY hk (by simp only [CO.base,hsl])
          refine⟨undef,w.setRow g (p++layV m off us++r).toArray,S1,K1.set k (.row E u'.size (some ⟨g,0,none⟩) (alg.set l i z).length cap (p++layV m off us++r.take (l.length * u'.size - (p++m).length))),.bad,{ st1 with hp:=setN st1.hp k (.row u' E (alg.set l i z))},.inr ⟨?_,rfl⟩,hle1,by rw [hbs,hbs1];exact Ext.refl _,⟨hH1.1,by rw [hbs];exact hH1.2.1,?_,?_⟩,?_,trivial,hQ⟩
          · have e6:adr (some (⟨g,0,none⟩:Addr)) (i.toNat * u'.size+off)=⟨g,i.toNat * u'.size+off,none⟩:=by simp [adr,blk,ofs]
            rw [e6] at hx;simp only [execOp,hx,Sem.run_bind,hrun,Result.andThen_ok,Sem.run_pure]
          · rw [hbs]
            simp only;rw [yJ];exact hH1.2.2.1.set k (.row hr1 hr2)
          · refine At.turn hH1.2.2.2 hk _ fun L hL=> ?_
            refine hL.step fun A hA=>⟨A,⟨?_,hr1,.inr ⟨g,cap,(p++layV m off us++r).toArray,fz,rfl,setRow_heap w g cur _ E fz hg,?_,by rw [hsl];exact hnc,hcm,?_,?_⟩⟩,fun _ h=>.inl h,(uG w g _).mono fun k hk e=>hk.2 ((hA.1 k).2 (by simp [Value.ownBlock,e]))⟩
            · intro k;rw [hA.1 k];simp [Value.ownBlock]
            · simpa only [List.size_toArray,hcl] using hfree
            · simpa only [List.size_toArray,hcl] using hcs
            · rw [hsl];exact e5
          · rw [hbs];exact⟨hE1.size,hE1.defers,hE1.slots⟩
         split at hq
         · rename_i p hp
           exact fin (fun p' hp'=>by rw [hp] at hp';cases hp';exact hq.1) hq.2.1 hq.2.2
         · rename_i hp
           exact fin (fun p' hp'=>by rw [hp] at hp';cases hp') hq.1 hq.2
       · exact hq.elim
     · exact hq.elim
   · exact hq.elim
 · exact hq.elim
def Elts (S:Frz) (u:U) (l:List u.den) (vs:List Value):Prop:=
 vs.length=l.length * u.size∧∀ (i:Nat) (x:u.den) (j:Nat) (p:P) (v:Value),l[i]? =some x→(enc alg u x)[j]? =some p→vs[i * u.size+j]? =some v→MP S p v
theorem Elts.nil (S:Frz) (u:U):Elts S u [] []:=⟨by simp,fun i x j p v h=>by simp at h⟩
theorem Elts.mono {S S':Frz} (hle:S.le S') {u:U} {l:List u.den} {vs:List Value} (h:Elts S u l vs):Elts S' u l vs:=⟨h.1,fun i x j p v a b c=>(h.2 i x j p v a b c).mono hle⟩
theorem Elts.append {S:Frz} {u:U} {l m:List u.den} {vs us:List Value} (h:Elts S u l vs) (k:Elts S u m us):Elts S u (l++m) (vs++us):=by
 refine⟨by rw [jk,jk,h.1,k.1,Nat.add_mul],fun i x j p v h1 h2 h3=> ?_⟩
 have hj:j<u.size:=by have:=(jl.1 h2).1;rw [xO] at this;exact this
 rcases Nat.lt_or_ge i l.length with hi|hi
 · rw [jy hi] at h1
   have h4:i * u.size+u.size≤vs.length:=by rw [h.1,← Nat.succ_mul];exact Nat.mul_le_mul_right _ hi
   rw [jy (by omega)] at h3
   exact h.2 i x j p v h1 h2 h3
 · rw [jA hi] at h1
   have h4:l.length * u.size≤i * u.size:=Nat.mul_le_mul_right _ hi
   rw [jA (by rw [h.1];omega)] at h3
   refine k.2 (i - l.length) x j p v h1 h2 ?_;rw [← h3]
   congr 1
   rw [h.1,Nat.sub_mul];omega
theorem Elts.one {S:Frz} {u:U} {x:u.den} {vs:List Value} (h:MPs S (enc alg u x) vs):Elts S u [x] vs:=by
 have hl:=h.length;rw [xO] at hl
 refine⟨by simp [hl],fun i y j p v h1 h2 h3=> ?_⟩
 cases i with
 | zero=>
   simp at h1;subst h1
   simp only [Nat.zero_mul,Nat.zero_add] at h3;obtain⟨v',h4,h5⟩:=h.get h2;rw [h4] at h3;cases h3;exact h5
 |succ i=>simp at h1
theorem Elts.oneCell {S:Frz} {u:U} {l:List u.den} {vs:List Value} (h:Elts S u l vs): ∀ v ∈ vs,v.oneCell'=true:=by
 intro v hv;obtain⟨m,hm⟩:=List.getElem?_of_mem hv;have hlt:=(jl.1 hm).1;have h0:=zbA u
 have hd:m / u.size<l.length:=by rw [h.1] at hlt;exact Nat.div_lt_of_lt_mul (by rw [Nat.mul_comm];exact hlt)
 have hmod:=Nat.mod_lt m h0
 have hj:m % u.size<(enc alg u l[m / u.size]).length:=by rw [xO];exact hmod
 refine(h.2 (m / u.size) _ (m % u.size) _ v (jm hd) (jm hj) ?_).one;rw [← hm]
 congr 1
 rw [Nat.mul_comm];exact Nat.div_add_mod m u.size
theorem zam (hT:T.fits Pr) (hH:Heap X st.hp S K w) (hE:Env S (K.map CO.base) st a) {u:U} {c:C} {m:List u.den} {v:Value} (h:zrX alg st.hp u c=some m) (hm:MC S (K.map CO.base) c v):
  ∃ us,Src Pr w u.size v m.length us∧Elts S u m us:=by
 unfold zrX at h
 split at h
 · cases h;cases hm
   exact⟨[],⟨by simp,fun w'=>rfl,fun w' _=>by simp [Builtin.firstCells]⟩,Elts.nil S u⟩
 · rename_i l
   obtain⟨e,he⟩:=V6 h;subst e;subst he;cases hm;refine⟨bvs l,?_,qB l⟩;exact zyJ l
 · split at h
   · rename_i u' l hc
     obtain⟨e,he⟩:=V6 h;subst e;subst he;obtain⟨ao,cap,vs,rfl,hnc,hlen,hrd,hx⟩:=(hH.sit hT hE).cont hm hc;exact⟨vs,hrd.src,hlen,hx⟩
   · cases h
theorem ZG {k:Nat} {c:CO} {fr:List Chunk} (hc:K[k]? =some c) (H:At w (frzC S::(CO.zy K++fr))): ∃ p r,K=p++c::r∧(∀ d,K.set k d=p++d::r)∧At w (c.chunk::frzC S::((CO.zy p++CO.zy r)++fr)):=by
 obtain⟨p,r,h1,_,h3⟩:=xE hc;refine⟨p,r,h1,h3,?_⟩;rw [h1,zB] at H;exact H.perm (zD _ _ _ _ _)
theorem xB (c a:Chunk) (l fr:List Chunk):(c::a::(l++fr)).Perm (a::(l++c::fr)):=
 (List.Perm.swap _ _ _).trans (List.perm_middle.symm.cons a)
def FewB (bytes:Nat) (n:Int):Prop:=(bytes≤1∧n≤140737488355328)∨n≤100000000
theorem FewB.max {b:Nat} {n:Int} (h:FewB b n):n≤140737488355328:=by rcases h with h|h<;>omega
theorem lfew {o:Oper} {b:Nat} {n:Int} {r:LR} (h:FewB b n→wz Pr X S K a w o r):wz Pr X S K a w o (fewL alg b n r):=by
 unfold fewL
 split
 · rename_i hb
   exact SA fun h0=>h (.inl ⟨Nat.le_of_ble_eq_true hb,by rw [ZO] at h0;exact h0⟩)
 · exact SA fun h0=>h (.inr (by rw [ZO] at h0;exact h0))
theorem zbx (hT:T.fits Pr) {t ut E:Nat} {s x:Operand} {u:U} {l m:List u.den} {us vs:List Value} {z:Option (List P)} {n1 n2:Nat} {ue ee:TE}
  (hte:T t=some ⟨.slice E,n1,n2,z,some u⟩) (hue:T ut=some ue) (hni: ∀ k,ue.ty≠ .int k) (hno:ue.ty≠ .other) (hee:T E=some ee) (hby:ee.bytes≤1000000) {zz:List P} (hez:ee.zero=some zz)
  {sv xv:Value} (hs:a.eval s=sv) (hx:a.eval x=xv) {L:List Chunk} (H:At w (rowC E u.size sv l.length vs::L)) (hsrc:Src Pr w u.size xv m.length us) (hm:Elts S u m us) (hfew:FewB ee.bytes ((l.length:Int)+(m.length:Int))):
  ∃ ao cap w',Does Pr a w ⟨dst,.call { callee:=.builtin .append,args:= #[s,x],argTypes:= #[t,ut]},ty,pos,af,gd⟩ (.slice ao (l++m).length cap) w'∧At w' (rowC E u.size (.slice ao (l++m).length cap) (l++m).length (vs++us)::L):=by
 obtain⟨dt,it,hut,-,htyt,-⟩:=TE.und (Tab.get hT hte);have:=zW htyt;subst this;obtain⟨du,iu,huu,-,htyu,-⟩:=TE.und (Tab.get hT hue);have hfe:=Tab.get hT hee;obtain⟨de,ie,hde,hie,_,hsz,hbytes⟩:=TE.und hfe;obtain⟨ie',zv,hie',hzv,hzf,hzl⟩:=TE.zero' hfe hez;rw [hie] at hie';cases hie';obtain⟨el,ee',hel,hee',hes,_⟩:=TE.elem (Tab.get hT hte) rfl;cases hel;rw [hee] at hee';cases hee'
 have hzs:zv.cells.size=u.size:=by
  have:=(qL (S:=S) hzf).length;rw [hzl,hes] at this
  simpa using this
 have hud: ∀ k,du≠ .int k:=by
  intro k e;subst e
  cases hty:ue.ty<;>rw [hty] at htyu<;>simp [Ty.fits] at htyu
  · exact hni _ hty
  · exact hno hty
 have hlm:(l++m).length=l.length+m.length:=jk
 have hb0:ee.bytes=ie.bytes:=by omega
 rw [hb0] at hfew hby;have hmax:=hfew.max
 have hmul:(l.length+m.length) * ie.bytes≤140737488355328:=by
  rcases hfew with⟨h1,h2⟩|h2
  · have:=Nat.mul_le_mul (show l.length+m.length≤140737488355328 by omega) h1;omega
  · have:=Nat.mul_le_mul (show l.length+m.length≤100000000 by omega) hby;omega
 obtain⟨v',w',hr,hA⟩:=zmg t ut ty E ie zv u.size ie.bytes hut huu hud hie hzv (by omega) rfl hzs sv l.length vs H xv m.length us hsrc hm.oneCell (by unfold maxLen;omega) (by omega)
 obtain⟨ao,cap,hv⟩:=hA.zdM;subst hv;rw [hlm];refine⟨ao,cap,w',.inl ?_,hA⟩;simp only [execOp,resolve,invoke,builtin,Sem.run_bind,Sem.run_pure,Result.andThen_ok,List.map_toArray,List.map_cons,List.map_nil,hs,hx,hr]
theorem zhy (hT:T.fits Pr) {t ut E:Nat} {s x:Operand} {u:U} {l m:List u.den} {us vs:List Value} {z:Option (List P)} {n1 n2:Nat} {ue ee:TE}
  (hte:T t=some ⟨.slice E,n1,n2,z,some u⟩) (hue:T ut=some ue) (hni: ∀ k,ue.ty≠ .int k) (hno:ue.ty≠ .other) (hee:T E=some ee) (hby:ee.bytes≤1000000) {zz:List P} (hez:ee.zero=some zz)
  {sv xv:Value} (hs:a.eval s=sv) (hx:a.eval x=xv) {L:List Chunk} (H:At w (rowC E u.size sv l.length vs::L)) (hsrc:Src Pr w u.size xv m.length us) (hm:Elts S u m us) (hfew:FewB ee.bytes ((l.length:Int)+(m.length:Int))):
  ∃ ao cap w',Does Pr a w ⟨dst,.call { callee:=.builtin .append,args:= #[s,x],argTypes:= #[t,ut]},ty,pos,af,gd⟩ (.slice ao (l++m).length cap) w'∧(At w' (rowC E u.size (.slice ao (l++m).length cap) (l++m).length (vs++us)::rowC E u.size sv l.length vs::L)∨(At w' (rowC E u.size (.slice ao (l++m).length cap) (l++m).length (vs++us)::L)∧∃ g cap0,sv=.slice (some g) l.length cap0∧ao=some g∧cap0=cap)):=by
 obtain⟨dt,it,hut,-,htyt,-⟩:=TE.und (Tab.get hT hte);have:=zW htyt;subst this;obtain⟨du,iu,huu,-,htyu,-⟩:=TE.und (Tab.get hT hue);have hfe:=Tab.get hT hee;obtain⟨de,ie,hde,hie,_,hsz,hbytes⟩:=TE.und hfe;obtain⟨ie',zv,hie',hzv,hzf,hzl⟩:=TE.zero' hfe hez;rw [hie] at hie';cases hie';obtain⟨el,ee',hel,hee',hes,_⟩:=TE.elem (Tab.get hT hte) rfl;cases hel;rw [hee] at hee';cases hee'
 have hzs:zv.cells.size=u.size:=by
  have:=(qL (S:=S) hzf).length;rw [hzl,hes] at this
  simpa using this
 have hud: ∀ k,du≠ .int k:=by
  intro k e;subst e
  cases hty:ue.ty<;>rw [hty] at htyu<;>simp [Ty.fits] at htyu
  · exact hni _ hty
  · exact hno hty
 have hlm:(l++m).length=l.length+m.length:=jk
 have hb0:ee.bytes=ie.bytes:=by omega
 rw [hb0] at hfew hby;have hmax:=hfew.max
 have hmul:(l.length+m.length) * ie.bytes≤140737488355328:=by
  rcases hfew with⟨h1,h2⟩|h2
  · have:=Nat.mul_le_mul (show l.length+m.length≤140737488355328 by omega) h1;omega
  · have:=Nat.mul_le_mul (show l.length+m.length≤100000000 by omega) hby;omega
 obtain⟨v',w',hr,hA⟩:=zh2 t ut ty E ie zv u.size ie.bytes hut huu hud hie hzv (by omega) rfl hzs sv l.length vs H xv m.length us hsrc hm.oneCell (by unfold maxLen;omega) (by omega)
 obtain⟨ao,cap,hv⟩: ∃ ao cap,v'=.slice ao (l.length+m.length) cap:=by
  rcases hA with hA|⟨hA,_⟩<;>exact hA.zdM
 subst hv;rw [hlm]
 have hor:At w' (rowC E u.size (.slice ao (l.length+m.length) cap) (l.length+m.length) (vs++us)::rowC E u.size sv l.length vs::L)∨(At w' (rowC E u.size (.slice ao (l.length+m.length) cap) (l.length+m.length) (vs++us)::L)∧∃ g cap0,sv=.slice (some g) l.length cap0∧ao=some g∧cap0=cap):=by
  rcases hA with hA|⟨hA,g,c0,e1,e2⟩
  · exact .inl hA
  · exact .inr ⟨hA,g,c0,e1,by cases e2;exact⟨rfl,rfl⟩⟩
 refine⟨ao,cap,w',.inl ?_,hor⟩;simp only [execOp,resolve,invoke,builtin,Sem.run_bind,Sem.run_pure,Result.andThen_ok,List.map_toArray,List.map_cons,List.map_nil,hs,hx,hr]
theorem zhx (hT:T.fits Pr) (hH:Heap X st.hp S K w) (hE:Env S (K.map CO.base) st a) {t ut:Nat} {s x:Operand}:
  wz Pr X S K a w ⟨dst,.call { callee:=.builtin .append,args:= #[s,x],argTypes:= #[t,ut]},ty,pos,af,gd⟩ (zi8 alg T st t ut s x):=by
 unfold zi8
 split
 · rename_i E n1 n2 z u ue cs cx hte hue hcs hcx
   split
   · exact lno
   · exact lno
   · rename_i hni hno
     split
     · rename_i ee m hee hm
       split
       · rename_i zz hby hez
         have hby:=Nat.le_of_ble_eq_true hby;have hms:=(hH.sit hT hE).one hcs;have hmx:=(hH.sit hT hE).one hcx;generalize hxv:a.eval x=xv at hmx;generalize hsv:a.eval s=sv at hms;obtain⟨us,hsrc,helt⟩:=zam hT hH hE hm hmx
         have nilc:sv=.slice none 0 0→wz Pr X S K a w ⟨dst,.call { callee:=.builtin .append,args:= #[s,x],argTypes:= #[t,ut]},ty,pos,af,gd⟩ (fewL alg ee.bytes (alg.len m) (.ok (.v (.one (.row st.hp.length))) { st with hp:=st.hp++[.row u E m]})):=by
          intro hsn;subst hsn;refine lfew fun h0=> ?_;rw [zN] at h0;have H0:=hH.2.2.2.nilRow E u.size
          obtain⟨ao,cap,w',hd,hA⟩:=zbx (dst:=dst) (ty:=ty) (pos:=pos) (af:=af) (gd:=gd) (S:=S) (l:=([]:List u.den)) (vs:=[]) hT hte hue (fun k h=>hni k h) (fun h=>hno h) hee hby hez hsv hxv H0 hsrc helt (by simpa using h0)
          simp only [List.nil_append] at hd hA;intro Q hq
          have he:Ext (K.map CO.base) ((K++[CO.row E u.size ao m.length cap us]).map CO.base):=by rw [List.map_append];exact Ext.append _ _
          refine⟨_,w',S,K++[CO.row E u.size ao m.length cap us],.v (.one (.row st.hp.length)),{ st with hp:=st.hp++[.row u E m]},hd,Frz.le.refl S,he,⟨hH.1,fun k v h=>he k v (hH.2.1 k v h),?_,?_⟩,⟨hE.size,hE.defers.mono (Frz.le.refl S) he,fun t d h=>(hE.slots t d h).mono (Frz.le.refl S) he⟩,?_,hq⟩
          · exact(hH.2.2.1.mono (Frz.le.refl S) he).push (.row helt.1 helt.2)
          · exact At.more hA
          · show MC S _ (.row st.hp.length) _
            rw [hH.2.2.1.1];exact⟨yZ _ _,_,_,_,rfl⟩
         split
         · exact nilc hms
         · rename_i l
           refine SA fun h0=>nilc ?_;rw [ZL,zN] at h0
           cases hms with
           |nl _ _ h1 h2=>exact h1 (List.eq_nil_of_length_eq_zero (by omega))
         · rename_i k
           split
           · rename_i u' E' l' ho
             split
             · rename_i l hb hcast
               have hb:=jI hb;subst hb;obtain⟨e,he⟩:=V6 hcast;subst e;subst he;refine lfew fun h0=> ?_;rw [uh,zN,zN] at h0;rw [yg] at ho;obtain⟨ao0,cap0,vs,hk,hlen,hxs,hrd⟩:=(hH.sit hT hE).row ho;have hv:=hms.1;rw [zL hk] at hv;cases hv;obtain⟨p,r,hp1,hp2,hfront⟩:=ZG hk hH.2.2.2;obtain⟨ao,cap,w',hd,hA⟩:=zbx (dst:=dst) (ty:=ty) (pos:=pos) (af:=af) (gd:=gd) (S:=S) hT hte hue (fun k h=>hni k h) (fun h=>hno h) hee hby hez hsv hxv hfront hsrc helt h0;have hall:=Elts.append ⟨hlen,hxs⟩ helt;intro Q hq;have hbs:(K.set k (.gone (.slice ao0 l'.length cap0))).map CO.base=K.map CO.base:=yY hk rfl
               have he:Ext (K.map CO.base) ((K.set k (.gone (.slice ao0 l'.length cap0))++[CO.row E u'.size ao (l'++m).length cap (vs++us)]).map CO.base):=by rw [List.map_append,hbs];exact Ext.append _ _
               refine⟨_,w',S,K.set k (.gone (.slice ao0 l'.length cap0))++[CO.row E u'.size ao (l'++m).length cap (vs++us)],.v (.one (.row st.hp.length)),{ st with hp:=setN st.hp k .gone++[.row u' E (l'++m)]},hd,Frz.le.refl S,he,⟨hH.1,fun k v h=>he k v (hH.2.1 k v h),?_,?_⟩,⟨hE.size,hE.defers.mono (Frz.le.refl S) he,fun t d h=>(hE.slots t d h).mono (Frz.le.refl S) he⟩,?_,hq⟩
               · simp only
                 rw [yJ];exact((hH.2.2.1.set k .gone).mono (Frz.le.refl S) he).push (.row hall.1 hall.2)
               · refine At.more ?_
                 rw [hp2,zB];have h5:=hA.swap
                 have h6:At w' (frzC S::((CO.zy p++CO.chunk (CO.gone (.slice ao0 l'.length cap0))::CO.zy r)++(CO.row E u'.size ao (l'++m).length cap (vs++us)).chunk::X.fr)):=by
                  refine(At.void ?_).perm (zD _ _ _ _ _).symm;refine hA.perm ?_;exact xB _ _ _ _
                 refine h6.perm ?_;exact(xB _ _ _ _).symm
               · show MC S _ (.row st.hp.length) _
                 have:st.hp.length=(K.set k (.gone (.slice ao0 l'.length cap0))).length:=by rw [hH.2.2.1.1];simp
                 rw [this];exact⟨yZ _ _,_,_,_,rfl⟩
             · exact lno
           · exact lno
         · exact lno
       · exact lno
     · exact lno
 · exact lno
theorem TK {o:Oper}: ∀ {ns:List Prop} {r:LR},((∀ p ∈ ns,p)→wz Pr X S K a w o r)→wz Pr X S K a w o (zky ns r)
 |[],_,h=>h fun p hp=>by cases hp
 |p::ps,_,h=>fun Q hq=>TK (ns:=ps) (fun hps=>h fun q hq'=>by cases hq' with|head=>exact hq.1|tail _ hm=>exact hps q hm) Q hq.2
theorem Si {z:List P} {u:U}: ∀ {ds:List (Option D)} {l:List u.den} {ns:List Prop},elems alg z u ds=some (l,ns)→l.length=ds.length
 |[],l,ns,h=>by cases h;rfl
 | d ::ds,l,ns,h=>by
   simp only [elems] at h
   split at h
   · split at h
     · split at h
       · rename_i x l' ns' h1 h2
         split at h<;>(cases h;simp [Si h2])
       · cases h
     · cases h
   · cases h
theorem zg8 {bs:List Value} {z:List P} {u:U} {ev:Operand→Option D} {av:Operand→Value} (hev: ∀ x d,ev x=some d→MD S bs d (av x)): ∀ {parts:List (Nat × Operand)} {k:Nat} {l:List u.den} {ns:List Prop} {cells:List Value},
  inOrder k (parts.map (·.1))=true→elems alg z u (parts.map fun p=>ev p.2)=some (l,ns)→(∀ p ∈ ns,p)→k * u.size+l.length * u.size≤cells.length→
  ∃ us,Elts S u l us∧Instr.fill (fun i=>some (i * u.size,u.size)) cells.toArray (parts.map fun(i,x)=>(i,av x))=some (cells.take (k * u.size)++us++cells.drop (k * u.size+l.length * u.size)).toArray
 | [],k,l,ns,cells,_,he,_,_=>by
   cases he
   exact⟨[],Elts.nil S u,by simp [Instr.fill]⟩
 | (i, x) :: parts,k,l,ns,cells,ho,he,hn,hle=>by
   simp only [List.map_cons,inOrder] at ho
   split at ho
   · rename_i hik
     have hik:=jI hik;subst hik;simp only [List.map_cons,elems] at he
     split at he
     · rename_i cs hcs
       split at he
       · rename_i ps hps
         split at he
         · rename_i y l' ns' hy hrec
           obtain⟨vs,hvc,hvm⟩:=qA hcs (fun d hd=>hev x d hd);have hpm:=yV hps hvm
           have key:(∀ p,qJ alg u ps=some p→p)→(∀ p ∈ ns',p)→l=y::l'→∃ us,Elts S u l us∧Instr.fill (fun i=>some (i * u.size,u.size)) cells.toArray (((k,x)::parts).map fun(i,x)=>(i,av x))=some (cells.take (k * u.size)++us++cells.drop (k * u.size+l.length * u.size)).toArray:=by
            intro hneed hns hl;subst hl;have hpm:=VT hy hneed hpm
            have hvl:vs.length=u.size:=by rw [hpm.length,xO]
            have hle':k * u.size+(u.size+l'.length * u.size)≤cells.length:=by simpa [Nat.add_mul,Nat.add_comm,Nat.add_left_comm] using hle
            have hsz:(layV cells (k * u.size) vs).length=cells.length:=XL _ _ _
            obtain⟨us,h1,h2⟩:=zg8 hev (k:=k+1) (cells:=layV cells (k * u.size) vs) ho hrec hns (by rw [hsz,Nat.succ_mul];omega)
            refine⟨vs++us,(Elts.one hpm).append h1,?_⟩;have hfold:=zeq vs cells.toArray (k * u.size) 0;simp only [Nat.add_zero] at hfold;simp only [List.map_cons,Instr.fill,hvc]
            rw [if_neg (by simp;omega)]
            have e0:(Array.foldl (fun cs x=>match x with|(c,j)=>cs.setIfInBounds (k * u.size+j) c) cells.toArray vs.toArray.zipIdx)=(layV cells (k * u.size) vs).toArray:=by
             rw [← hfold];simp
            rw [e0,h2]
            congr 2
            rw [ziu vs cells _ (by omega),hvl]
            have e1:(List.take (k * u.size) cells++vs).length=(k+1) * u.size:=by rw [jk,jv,hvl,Nat.succ_mul];omega
            rw [show(k+1) * u.size=(List.take (k * u.size) cells++vs).length from e1.symm,List.take_left];rw [jo (List.take (k * u.size) cells) vs us]
            congr 1
            rw [List.drop_append,List.drop_eq_nil_of_le (by omega),List.nil_append,List.drop_drop]
            congr 1
            simp only [jh,Nat.succ_mul,jk,jv,hvl];omega
           split at he
           · rename_i p hp
             cases he
             exact key (fun p' hp'=>by rw [hp] at hp';cases hp';exact hn _ (List.mem_cons_self ..)) (fun p' hp'=>hn _ (List.mem_cons_of_mem _ hp')) rfl
           · rename_i hp
             cases he
             exact key (fun p' hp'=>by rw [hp] at hp';cases hp') hn rfl
         · cases he
       · cases he
     · cases he
   · cases ho
theorem zaw {P:Program} {w:World} {T E:TypeId} (ht:P.underlying T=some (.slice E)) {i:TypeInfo} (hi:P.info? E=some i):
  (Instr.buildSlice T 0 #[]).run P w=.ok (.slice (some ⟨w.heap.size,0,none⟩) 0 0) (w.alloc (.cells #[] E)):=by
 simp [Instr.buildSlice,run_underlying ht,sizeOf,typeInfo,hi,newRow,Instr.fill]
 congr 2
 apply Array.ext'
 simp
theorem SG (hT:T.fits Pr) (hH:Heap X st.hp S K w) (hE:Env S (K.map CO.base) st a) {t n:Nat} {parts:Array (Nat × Operand)}:
  wz Pr X S K a w ⟨dst,.buildSlice t n parts,ty,pos,af,gd⟩ (XU alg T st t n parts):=by
 intro Q hq;unfold XU at hq;obtain⟨S1,K1,hle1,hbs1,hH1,hE1⟩:=yM hH hE (parts.toList.flatMap fun p=>rowsOf (st.eval p.2));simp only at hq;generalize xu alg (parts.toList.flatMap fun p=>rowsOf (st.eval p.2)) st=st1 at hq hH1 hE1
 split at hq
 · rename_i e he
   split at hq
   · rename_i E u hety hu
     split at hq
     · exact hq.elim
     · rename_i ee hee
       split at hq
       · exact hq.elim
       · rename_i zz hez
         split at hq
         case h_2=>exact hq.elim
         rename_i l ns ho hn hn2 hel;have hn:=jI hn;have hn2:=Nat.le_of_ble_eq_true hn2;have hf:=Tab.get hT he;obtain⟨ds,it,hut,hit,htyt,-⟩:=TE.und hf;rw [hety] at htyt;have:=zW htyt;subst this;obtain⟨el,ee',hel',hee',hes,_⟩:=TE.elem hf hu;rw [hety] at hel';cases hel';rw [hee] at hee';cases hee';obtain⟨_,ie,_,hie,_,hsz,_⟩:=TE.und (Tab.get hT hee);obtain⟨ie',zv,hie',hzv,hzf,hzl⟩:=TE.zero' (Tab.get hT hee) hez;rw [hie] at hie';cases hie';have hll:=Si hel;simp only [List.length_map] at hll
         have hsound:wz Pr X S1 K1 a w ⟨dst,.buildSlice t n parts,ty,pos,af,gd⟩ (zky ns (UB st1 (.row u E l) (.row st1.hp.length))):=by
          refine TK fun hns=> ?_
          obtain⟨us,h1,h2⟩:=zg8 (S:=S1) (bs:=K1.map CO.base) (av:=a.eval) (fun x d hd=>hH1.eval hT hE1 x d hd) (cells:=((Array.range (n * u.size)).map (zv.cells[· % zv.cells.size]!)).toList) ho hel hns (by simp;rw [hll,← hn];omega)
          have hu12:u.size≤12:=by cases u<;>decide
          have hrun:(Instr.buildSlice t n (parts.map fun(i,x)=>(i,a.eval x))).run Pr w=.ok (.slice (some ⟨w.heap.size,0,none⟩) n n) (w.alloc (.cells us.toArray E)):=by
           rcases Nat.eq_zero_or_pos n with h0|h0
           · have hp0:parts= #[]:=by apply Array.ext';exact List.eq_nil_of_length_eq_zero (by omega)
             have hu0:us=[]:=List.eq_nil_of_length_eq_zero (by rw [h1.1,hll,← hn,h0,Nat.zero_mul])
             rw [hp0,hu0,h0]
             simpa using zaw hut hie
           have hq:=run_buildSlice (P:=Pr) w t E n (parts.map fun(i,x)=>(i,a.eval x)) us.toArray ie zv hut hie hzv (by rw [hsz,hes];have:=Nat.mul_le_mul hn2 hu12;omega) (by rw [hsz,hes];have:=Nat.mul_pos h0 (zbA u);omega) (by
            rw [hsz,hes];simp only [Nat.zero_mul,List.take_zero,List.nil_append,Nat.zero_add] at h2
            rw [show us.toArray=(us++List.drop (l.length * u.size) (Array.map (fun x=>zv.cells[x % zv.cells.size]!) (Array.range (n * u.size))).toList).toArray by
             rw [List.drop_eq_nil_of_le (by simp;rw [hll,← hn];omega),List.append_nil]]
            rw [← h2,Array.toArray_toList]
            simp)
           exact hq
          · have hln:l.length=n:=by omega
            have hal:=h1.1;rw [hln] at hal;refine sF (v:=.slice (some ⟨w.heap.size,0,none⟩) n n) (w':=w.alloc (.cells us.toArray E)) (co:=.row E u.size (some ⟨w.heap.size,0,none⟩) n n us) hH1 hE1 (.inl ?_) (fun L hL=> ?_) ?_ ?_
            · simp only [execOp,Sem.run_bind,hrun,Result.andThen_ok,Sem.run_pure]
            · have:=hL.QX E u.size n us.toArray (0,0) (by simpa using hal) (by unfold maxLen;omega) (vF _)
              simpa [CO.chunk] using this
            · rw [← hln];exact .row h1.1 h1.2
            · rw [hH1.2.2.1.1]
              exact⟨yZ _ _,_,_,_,rfl⟩
         obtain⟨v,w',S2,K2,d,st2,hd,hle2,hex,hH2,hE2,hm,hQ⟩:=hsound Q hq
         exact⟨v,w',S2,K2,d,st2,hd,hle1.trans hle2,by rw [← hbs1];exact hex,hH2,hE2,hm,hQ⟩
   · exact hq.elim
 · exact hq.elim
theorem zmx (hT:T.fits Pr) (hH:Heap X st.hp S K w) (hE:Env S (K.map CO.base) st a) {t:Nat} {x y:Operand}:wz Pr X S K a w ⟨dst,.makeSlice t x y,ty,pos,af,gd⟩ (zvQ alg T st t x y):=by
 unfold zvQ
 split
 · rename_i e n m he hn hm
   split
   · rename_i E u hety hu
     split
     · rename_i ee hee
       split
       · rename_i z hez hs1 hby
         have hs1:=jI hs1;have hby:=Nat.le_of_ble_eq_true hby;obtain⟨k1,hx⟩:=(hH.sit hT hE).int hn;obtain⟨k2,hy⟩:=(hH.sit hT hE).int hm;have hf:=Tab.get hT he;obtain⟨ds,it,hut,hit,htyt,-⟩:=TE.und hf;rw [hety] at htyt;have:=zW htyt;subst this;obtain⟨el,ee',hel',hee',hes,_⟩:=TE.elem hf hu;rw [hety] at hel';cases hel';rw [hee] at hee';cases hee';obtain⟨_,ie,_,hie,_,hsz,hbytes⟩:=TE.und (Tab.get hT hee);obtain⟨ie',zv,hie',hzv,hzf,hzl⟩:=TE.zero' (Tab.get hT hee) hez;rw [hie] at hie';cases hie'
         have key: ∀ d:u.den,dec alg u z=some d→(∀ p,qJ alg u z=some p→p)→wz Pr X S K a w ⟨dst,.makeSlice t x y,ty,pos,af,gd⟩ (.need (alg.same n m) (.need (alg.nng n) (.need (alg.few n 1000000) (UB st (.row u E (alg.rep n d)) (.row st.hp.length))))):=by
          intro d hd hneed;refine SA fun hnm=>SA fun h0=>SA fun hfew=> ?_;rw [ZL] at hnm;subst hnm;rw [Tj] at h0;rw [ZO] at hfew;have hms:=qL (S:=S) hzf;have hlz:=hms.length;rw [hzl,hs1] at hlz
          obtain⟨zc,hzc⟩: ∃ zc,zv.cells.toList=[zc]:=by
           cases hq:zv.cells.toList with
           |nil=>rw [hq] at hlz;cases hlz
           | cons q r=>cases r with
             |nil=>exact⟨q,rfl⟩
             |cons _ _=>rw [hq] at hlz;simp at hlz
          have hzc1:zv.cells= #[zc]:=by apply Array.ext';simpa using hzc
          have h1c:MPs S (enc alg u d) [zc]:=VT hd hneed (by rw [← hzc];exact hms)
          have hu1:u.size=1:=by omega
          obtain⟨nn,hnn⟩: ∃ nn:Nat,n=nn:=⟨n.toNat,by omega⟩
          subst hnn
          have hbd:(ie.bytes:Int) * nn≤1000 * 1000000:=Int.mul_le_mul (by omega) hfew (by omega) (by omega)
          have hr:=run_make (P:=Pr) w t E ie zv hut hie hzv k1 k2 nn nn (by omega) (Int.le_refl _) (by omega) (by omega)
          rw [show ie.size=1 by omega,Nat.mul_one,hzc1] at hr
          simp only [jJ] at hr
          have hrep:(madeCells #[zc] nn)=(List.replicate nn zc).toArray:=by rw [← zd9]
          rw [hrep] at hr
          have hel:Elts S u (List.replicate nn d) (List.replicate nn zc):=by
           refine⟨by simp [hu1],fun i x j p v h2 h3 h4=> ?_⟩
           have hx:=List.eq_of_mem_replicate (List.mem_of_getElem? h2);have hv:=List.eq_of_mem_replicate (List.mem_of_getElem? h4);subst hx;subst hv;obtain⟨v',h5,h6⟩:=h1c.get h3
           have:j=0:=by have:=(jl.1 h3).1;rw [xO] at this;omega
           subst this;cases h5;exact h6
          refine sF (v:=.slice (some ⟨w.heap.size,0,none⟩) nn nn) (w':=w.alloc (.cells (List.replicate nn zc).toArray E)) (co:=.row E u.size (some ⟨w.heap.size,0,none⟩) nn nn (List.replicate nn zc)) hH hE (.inl ?_) (fun L hL=> ?_) ?_ ?_
          · simp only [execOp,hx,hy,Sem.run_bind,hr,Result.andThen_ok,Sem.run_pure]
          · have:=hL.QX E u.size nn (List.replicate nn zc).toArray (0,0) (by simp [hu1]) (by unfold maxLen;omega) (vF _)
            simpa [CO.chunk] using this
          · have:=hel
            rw [zby,jJ]
            have hln:(List.replicate nn d).length=nn:=by simp
            have hR:=Rel.row (S:=S) (bs:=((K++[CO.row E u.size (some ⟨w.heap.size,0,none⟩) nn nn (List.replicate nn zc)]).map CO.base)) (E:=E) (ao:=some ⟨w.heap.size,0,none⟩) (cap:=nn) hel.1 hel.2;rw [hln] at hR;exact hR
          · rw [hH.2.2.1.1]
            exact⟨yZ _ _,_,_,_,rfl⟩
         split
         · rename_i d h1 h2;exact key d h1 fun p hp=>by rw [h2] at hp;cases hp
         · rename_i d p h1 h2;exact SA fun h3=>key d h1 fun p' hp=>by rw [h2] at hp;cases hp;exact h3
         · exact lno
       · exact lno
     · exact lno
   · exact lno
 · exact lno
theorem zmb (hT:T.fits Pr) (hH:Heap X st.hp S K w) (hE:Env S (K.map CO.base) st a) {s d:Nat} {x:Operand}:wz Pr X S K a w ⟨dst,.convert s d x,ty,pos,af,gd⟩ (zvm alg T st s d x):=by
 unfold zvm
 split
 · rename_i e e1 e2 e3 e4 k hsd hs hc
   have:=jI hsd;subst this
   split
   · rename_i f1 f2 f3 f4 u E l he ho
     refine SA fun hnb=> ?_;intro Q hQ;have hm:=(hH.sit hT hE).one hc;obtain⟨ds,is,hus,-,htys,-⟩:=TE.und (Tab.get hT hs);obtain⟨de,ie,hue,-,htye,-⟩:=TE.und (Tab.get hT he);have:=zW htys;subst this;have:=fits_int htye;subst this;generalize hx:a.eval x=xv at hm;rw [yg] at ho;have hm2:=hm;obtain⟨hbk,ao0,n0,cap0,rfl⟩:=hm2;obtain⟨ao,cap,vs,hK,hlen,hxs,hrd⟩:=(hH.sit hT hE).row ho;have hb:=zL hK;rw [hb] at hbk;simp only [CO.base,jw,Value.slice.injEq] at hbk;obtain⟨rfl,rfl,rfl⟩:=hbk;obtain⟨p,r,hp1,hp2,H⟩:=ZG hK hH.2.2.2
     have hpos:0<l.length:=by
      simp only [ZM,zN] at hnb;omega
     obtain⟨g,cur,rfl,⟨fz,hg⟩,hat⟩:=At.mark hpos H;have hrun:=Sz Pr w s e g l.length cap cur E fz hus hue hg
     have hat2:At (w.freeze ⟨g,cur.size,none⟩ 1) (frzC S::(CO.zy K++X.fr)):=by
      rw [hp1,zB];exact hat.perm (zD _ _ _ _ _).symm
     refine⟨.slice (some ⟨g,0,none⟩) l.length cap,_,S,K,.v (.one (.row k)),st,.inl ?_,Frz.le.refl S,Ext.refl _,⟨hH.1,hH.2.1,hH.2.2.1,hat2⟩,hE,hm,hQ⟩;simp only [execOp,hx,Sem.run_bind,hrun,Result.andThen_ok,Sem.run_pure]
   · exact lno
 · exact lno
theorem zrN {α:Type} (A Z:List α) (a N:Nat) (h:a+Z.length≤N) (hN:N≤A.length):(A.take a++Z++A.drop (a+Z.length)).take N=(A.take N).take a++Z++(A.take N).drop (a+Z.length):=by
 have h1:(A.take a++Z).length=a+Z.length:=by rw [jk,jv];omega
 rw [List.take_append,jq (by omega),h1,List.take_take,Nat.min_eq_left (by omega),List.drop_take]
theorem Elts.take {S:Frz} {u:U} {l:List u.den} {vs:List Value} (h:Elts S u l vs) (n:Nat):Elts S u (l.take n) (vs.take (n * u.size)):=by
 refine⟨by rw [jv,jv,h.1,← Nat.mul_min_mul_right],fun i x j p v h1 h2 h3=> ?_⟩
 rw [jD] at h1 h3
 split at h1
 · split at h3
   · exact h.2 i x j p v h1 h2 h3
   · cases h3
 · cases h1
theorem Elts.drop {S:Frz} {u:U} {l:List u.den} {vs:List Value} (h:Elts S u l vs) (n:Nat):Elts S u (l.drop n) (vs.drop (n * u.size)):=by
 refine⟨by rw [jC,jC,h.1,Nat.sub_mul],fun i x j p v h1 h2 h3=> ?_⟩
 rw [jG] at h1 h3
 exact h.2 (n+i) x j p v h1 h2 (by rw [Nat.add_mul,Nat.add_assoc];exact h3)
theorem Xr {S:Frz} {u:U} {d:u.den} {zs:Array Value} (h:MPs S (enc alg u d) zs.toList) (n:Nat):Elts S u (List.replicate n d) (Builtin.zeroCells zs n).toList:=by
 have hl:=h.length;rw [xO,Array.length_toList] at hl;have hp:=zbA u
 refine⟨by rw [Array.length_toList,size_zeroCells,List.length_replicate,hl],fun i x j p v h1 h2 h3=> ?_⟩
 have hx:=List.eq_of_mem_replicate (List.mem_of_getElem? h1);subst hx
 have hj:j<u.size:=by have:=(jl.1 h2).1;rw [xO] at this;exact this
 obtain⟨v',h4,h5⟩:=h.get h2;have hi:=(jl.1 h1).1;rw [List.length_replicate] at hi
 have hlt:i * u.size+j<n * zs.size:=by
  rw [hl];have:=Nat.mul_le_mul_right u.size (show i+1≤n from hi);rw [Nat.succ_mul] at this;omega
 have hv:zs[(i * u.size+j) % zs.size]! =v':=by
  rw [hl,show(i * u.size+j) % u.size=j by rw [Nat.mul_comm,Nat.mul_add_mod,Nat.mod_eq_of_lt hj]]
  rw [Array.getElem?_toList] at h4
  simp [getElem!_def,h4]
 have h6:(Builtin.zeroCells zs n).toList[i * u.size+j]? =some zs[(i * u.size+j) % zs.size]! :=by
  unfold Builtin.zeroCells;rw [Array.getElem?_toList,Array.getElem?_map,Array.getElem?_range,if_pos hlt];rfl
 rw [h6,hv] at h3;cases h3;exact h5
theorem zeX (hT:T.fits Pr) (hH:Heap X st.hp S K w) (hE:Env S (K.map CO.base) st a) {t ut:Nat} {s x:Operand}:
  wz Pr X S K a w ⟨dst,.call { callee:=.builtin .append,args:= #[s,x],argTypes:= #[t,ut]},ty,pos,af,gd⟩ (zeY alg T st t ut s x):=by
 unfold zeY
 split
 · rename_i E n1 n2 z u kk m1 m2 m3 m4 n hte hue hcs hcx
   split
   · rename_i ee hee
     split
     · rename_i zz hby hez
       have hby:=Nat.le_of_ble_eq_true hby
       have key: ∀ d:u.den,dec alg u zz=some d→(∀ p,qJ alg u zz=some p→p)→wz Pr X S K a w ⟨dst,.call { callee:=.builtin .append,args:= #[s,x],argTypes:= #[t,ut]},ty,pos,af,gd⟩ (.need (alg.nng n) (.need (alg.few n 1000000) (UB st (.row u E (alg.rep n d)) (.row st.hp.length)))):=by
        intro d hd hneed;refine SA fun h0=>SA fun hfew=> ?_;rw [Tj] at h0;rw [ZO] at hfew
        obtain⟨nn,hnn⟩: ∃ nn:Nat,n=nn:=⟨n.toNat,by omega⟩
        subst hnn;have hms:=(hH.sit hT hE).one hcs;have hms:a.eval s=.slice none 0 0:=hms;obtain⟨k1,hx⟩:=(hH.sit hT hE).int hcx;obtain⟨dt,it,hut,-,htyt,-⟩:=TE.und (Tab.get hT hte);have:=zW htyt;subst this;obtain⟨du,iu,huu,-,htyu,-⟩:=TE.und (Tab.get hT hue);have:=fits_int htyu;subst this;have hfe:=Tab.get hT hee;obtain⟨de,ie,hde,hie,_,hsz,hbytes⟩:=TE.und hfe;obtain⟨ie',zv,hie',hzv,hzf,hzl⟩:=TE.zero' hfe hez;rw [hie] at hie';cases hie';obtain⟨el,ee',hel,hee',hes,_⟩:=TE.elem (Tab.get hT hte) rfl;cases hel;rw [hee] at hee';cases hee';have hms0:=qL (S:=S) hzf
        have hzs:zv.cells.size=ie.size:=by
         have:=hms0.length;rw [hzl,hes] at this;rw [hsz,hes]
         simpa using this
        have hms0:=VT hd hneed hms0;have helt:=Xr hms0 nn
        have hmul:nn * ie.bytes≤1000000 * 1000:=Nat.mul_le_mul (by omega) (by omega)
        obtain⟨v',w',hr,hA⟩:=zh1 t ut ty E ie zv hut huu hie hzv hzs hH.2.2.2 nn k1 (by unfold maxLen;omega) (by omega)
        rw [show ie.size=u.size by omega] at hA
        obtain⟨ao,cap,hv⟩:=hA.zdM;subst hv;intro Q hq
        have hlen:(List.replicate nn d).length=nn:=by simp
        have hal:alg.rep (nn:Int) d=List.replicate nn d:=by rw [zby,jJ]
        have he:Ext (K.map CO.base) ((K++[CO.row E u.size ao nn cap (Builtin.zeroCells zv.cells nn).toList]).map CO.base):=by rw [List.map_append];exact Ext.append _ _
        refine⟨.slice ao nn cap,w',S,K++[CO.row E u.size ao nn cap (Builtin.zeroCells zv.cells nn).toList],.v (.one (.row st.hp.length)),{ st with hp:=st.hp++[.row u E (alg.rep (nn:Int) d)]},.inl ?_,Frz.le.refl S,he,⟨hH.1,fun k v h=>he k v (hH.2.1 k v h),?_,?_⟩,⟨hE.size,hE.defers.mono (Frz.le.refl S) he,fun t d h=>(hE.slots t d h).mono (Frz.le.refl S) he⟩,?_,hq⟩
        · simp only [execOp,resolve,invoke,builtin,Sem.run_bind,Sem.run_pure,Result.andThen_ok,List.map_toArray,List.map_cons,List.map_nil,hms,hx,hr]
        · refine(hH.2.2.1.mono (Frz.le.refl S) he).push ?_
          rw [hal];have hR:=Rel.row (S:=S) (bs:=((K++[CO.row E u.size ao nn cap (Builtin.zeroCells zv.cells nn).toList]).map CO.base)) (E:=E) (ao:=ao) (cap:=cap) helt.1 helt.2;rw [hlen] at hR;exact hR
        · exact At.more hA
        · show MC S _ (.row st.hp.length) _
          rw [hH.2.2.1.1];exact⟨yZ _ _,_,_,_,rfl⟩
       split
       · rename_i d h1 h2;exact key d h1 fun p hp=>by rw [h2] at hp;cases hp
       · rename_i d p h1 h2;exact SA fun h3=>key d h1 fun p' hp=>by rw [h2] at hp;cases hp;exact h3
       · exact lno
     · exact lno
   · exact lno
 · exact lno
theorem ziS (hT:T.fits Pr) (hH:Heap X st.hp S K w) (hE:Env S (K.map CO.base) st a) {t:Nat} {x:Operand}:wz Pr X S K a w ⟨dst,.call ⟨.builtin .clear,#[x],#[t]⟩,ty,pos,af,gd⟩ (zq6 alg T st t x):=by
 unfold zq6
 split
 · rename_i E b1 b2 b3 b4 u k lo hi he hc
   split
   · rename_i ee u' E' l hee ho
     split
     · rename_i z hez hs1 hs2
       split
       · rename_i d hd hdn
         refine SA fun hcut=> ?_;have hs1:=jI hs1;have hs2:=jI hs2;rw [Uh,zN] at hcut;obtain⟨dsc,it,hut,hit,htyt,-⟩:=TE.und (Tab.get hT he);have:=zW htyt;subst this;obtain⟨ie,zv,hie,hzv,hzf,hzl⟩:=TE.zero' (Tab.get hT hee) hez;have hsit:=hH.sit hT hE;have hm:=hsit.one hc;generalize hx:a.eval x=xv at hm;rw [yg] at ho;obtain⟨ao,cap,vs,hk,hlen,hxs,hrd⟩:=hsit.row ho;obtain⟨ao1,n1,cap1,hb,hlo0,hhi0,hsub⟩:=hm;rw [zL hk] at hb;simp only [CO.base,jw,Value.slice.injEq] at hb;obtain⟨rfl,rfl,rfl⟩:=hb;obtain⟨ao',cap',rfl,hle,hhl,_,_,_,hao,_⟩:=hsub
         obtain⟨lb,hlb⟩: ∃ lb:Nat,lo=lb:=⟨lo.toNat,by omega⟩
         obtain⟨rb,hrb⟩: ∃ rb:Nat,hi=rb:=⟨hi.toNat,by omega⟩
         subst hlb;subst hrb;simp only [jJ] at hle hhl hao hx;have hms:=qL (S:=S) hzf
         have hms:=VT hd (fun p hp=>by rw [hdn] at hp;cases hp) hms
         have hZ:=Xr hms (rb - lb);have hE0:Elts S u' l vs:=⟨hlen,hxs⟩;have hnew:Elts S u' (l.take lb++(List.replicate (rb - lb) d++l.drop rb)) (vs.take (lb * u'.size)++((Builtin.zeroCells zv.cells (rb - lb)).toList++vs.drop (rb * u'.size))):=(hE0.take lb).append (hZ.append (hE0.drop rb))
         have hll:(l.take lb++(List.replicate (rb - lb) d++l.drop rb)).length=l.length:=by
          simp only [jk,jv,List.length_replicate,jC];omega
         have e0:alg.app (alg.cut l 0 (lb:Int)) (alg.app (alg.rep (alg.sub (rb:Int) (lb:Int)) d) (alg.cut l (rb:Int) (alg.len l)))=l.take lb++(List.replicate (rb - lb) d++l.drop rb):=by
          rw [ZP,ZP,ug,ug,zby,ZK,zN];simp only [jJ,Int.toNat_zero,List.drop_zero,Nat.sub_zero]
          rw [show((rb:Int) - (lb:Int)).toNat=rb - lb by omega,jq (l:=l.drop rb) (by rw [jC];exact jL _)]
         rw [e0];intro Q hq
         rcases Nat.lt_or_ge lb rb with hlt|hge
         · rw [hao hlt] at hx
           have hx:=hx;obtain⟨L,hat⟩:=hsit.chunk hk;obtain⟨A,hA⟩:=hat.head
           obtain⟨hF,hA2,⟨hv,hn0⟩|⟨g,cap2,cur,fz,hv,hg,hfree,hnc,hcm,hcs,ht⟩⟩:=hA
           · omega
           cases hv;have hmul:=Nat.mul_le_mul_right u'.size hhl;have hmul2:=Nat.mul_le_mul_right u'.size hnc;have hmul3:=Nat.mul_le_mul_right u'.size (Nat.le_of_lt hlt);have hZl:=hZ.1;rw [List.length_replicate,Nat.sub_mul] at hZl
           have hst:=yK Pr g (lb * u'.size) E' fz (Builtin.zeroCells zv.cells (rb - lb)).toList 0 cur w hg hfree (by rw [hZl];omega) hZ.oneCell
           have hcl:(cur.toList.take (lb * u'.size)++(Builtin.zeroCells zv.cells (rb - lb)).toList++cur.toList.drop (lb * u'.size+(Builtin.zeroCells zv.cells (rb - lb)).toList.length)).length=cur.size:=by
            simp only [jk,jv,jC,Array.length_toList] at hZl ⊢;omega
           have hvs:(cur.toList.take (lb * u'.size)++(Builtin.zeroCells zv.cells (rb - lb)).toList++cur.toList.drop (lb * u'.size+(Builtin.zeroCells zv.cells (rb - lb)).toList.length)).take (l.length * u'.size)=vs.take (lb * u'.size)++((Builtin.zeroCells zv.cells (rb - lb)).toList++vs.drop (rb * u'.size)):=by
            rw [zrN cur.toList (Builtin.zeroCells zv.cells (rb - lb)).toList (lb * u'.size) (l.length * u'.size) (by rw [hZl];omega) (by rw [Array.length_toList];exact Nat.le_trans hmul2 hcs),ht,jo,hZl,show lb * u'.size+(rb * u'.size - lb * u'.size)=rb * u'.size by omega]
           rw [Nat.add_zero] at hst
           have hbs:(K.set k (.row E' u'.size (some ⟨g,0,none⟩) (l.take lb++(List.replicate (rb - lb) d++l.drop rb)).length cap (vs.take (lb * u'.size)++((Builtin.zeroCells zv.cells (rb - lb)).toList++vs.drop (rb * u'.size))))).map CO.base=K.map CO.base:=yY hk (by simp only [CO.base,hll])
           refine⟨.tuple #[],w.setRow g (cur.toList.take (lb * u'.size)++(Builtin.zeroCells zv.cells (rb - lb)).toList++cur.toList.drop (lb * u'.size+(Builtin.zeroCells zv.cells (rb - lb)).toList.length)).toArray,S,K.set k (.row E' u'.size (some ⟨g,0,none⟩) (l.take lb++(List.replicate (rb - lb) d++l.drop rb)).length cap (vs.take (lb * u'.size)++((Builtin.zeroCells zv.cells (rb - lb)).toList++vs.drop (rb * u'.size)))),.tup [],_,.inl ?_,Frz.le.refl S,by rw [hbs];exact Ext.refl _,⟨hH.1,by rw [hbs];exact hH.2.1,?_,?_⟩,?_,⟨[],trivial,rfl⟩,hq⟩
           · obtain⟨m,hm⟩: ∃ m,rb - lb=m+1:=⟨rb - lb - 1,by omega⟩
             rw [hs1,hm] at hx;rw [hm] at hst ⊢;simp only [Option.map_some,Addr.add_lit,Nat.zero_add] at hx
             simp [execOp,resolve,invoke,builtin,hx,Builtin.clear_,run_underlying hut,zeroValue,typeInfo,hie,hzv,hst]
           · rw [hbs]
             simp only;rw [yJ];exact hH.2.2.1.set k (.row hnew.1 hnew.2)
           · refine At.turn hH.2.2.2 hk _ fun L hL=> ?_
             refine hL.step fun A hA=>⟨A,⟨?_,hnew.1,.inr ⟨g,cap,_,fz,rfl,setRow_heap w g cur _ E' fz hg,?_,by rw [hll];exact hnc,hcm,?_,?_⟩⟩,fun _ h=>.inl h,(uG w g _).mono fun k hk e=>hk.2 ((hA.1 k).2 (by simp [Value.ownBlock,e]))⟩
             · intro k;rw [hA.1 k];simp [Value.ownBlock]
             · simpa only [List.size_toArray,hcl] using hfree
             · simpa only [List.size_toArray,hcl] using hcs
             · rw [hll];exact hvs
           · rw [hbs];exact⟨hE.size,hE.defers,hE.slots⟩
         · have hrl:rb=lb:=by omega
           subst hrl
           have el:l.take rb++(List.replicate (rb - rb) d++l.drop rb)=l:=by simp
           rw [el] at hq
           have eh:setN st.hp k (.row u' E' l)=st.hp:=by
            rw [yJ];obtain⟨hlt,he1⟩:=jl.1 ho;rw [← he1];exact List.set_getElem_self hlt
           rw [eh] at hq;refine⟨.tuple #[],w,S,K,.tup [],st,.inl ?_,Frz.le.refl S,Ext.refl _,hH,hE,⟨[],trivial,rfl⟩,hq⟩;rw [Nat.sub_self] at hx
           cases ao'<;>simp [execOp,resolve,invoke,builtin,hx,Builtin.clear_,run_underlying hut]
       · exact lno
     · exact lno
   · exact lno
 · exact lno
theorem zf0 (hT:T.fits Pr) (hH:Heap X st.hp S K w) (hE:Env S (K.map CO.base) st a) (o:Oper):wz Pr X S K a w o (lop alg T st o.op):=by
 obtain⟨dst,op,ty,pos,af,gd⟩:=o
 cases op with
 |store t x v=>exact zhK hT hH hE
 |alloc t=>exact zi9 hT hH hE
 |box t x=>exact zrf hT hH hE
 |buildSlice t n parts=>exact SG hT hH hE
 |makeSlice t x y=>exact zmx hT hH hE
 | convert s d x=>
   simp only [lop]
   split
   · exact ziY hT hH hE
   · exact zmb hT hH hE
 | call c=>
   obtain⟨callee,args,tys⟩:=c;simp only [lop]
   split
   · rename_i s x t u h1 h2
     have h1:args= #[s,x]:=by apply Array.ext';simpa using h1
     have h2:tys= #[t,u]:=by apply Array.ext';simpa using h2
     subst h1;subst h2
     split
     · exact zeX hT hH hE
     · exact zhx hT hH hE
   · rename_i x t h1 h2
     have h1:args= #[x]:=by apply Array.ext';simpa using h1
     have h2:tys= #[t]:=by apply Array.ext';simpa using h2
     subst h1;subst h2;exact ziS hT hH hE
   · exact lno
 |_=>exact lno
end
end Go.Ab
