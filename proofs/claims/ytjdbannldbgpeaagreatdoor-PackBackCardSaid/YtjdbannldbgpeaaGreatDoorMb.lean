/- Texts of this proof, one behind the other: AbH AbI AbR AbJ AbK AbL. -/
import Derived.Great.BuildSlice
import Derived.OrdersHeld
import Derived.Test.YtjdbannldbgpeaaGreatDoorMa
set_option linter.all false
namespace Go.Ab
open Go Go.Sep
variable [Facts]
inductive LR where
 |ok (d:D) (st:St)
 |need (p:Prop) (r:LR)
 |no
def LR.holds:LR→(D→St→Prop)→Prop
 |.ok d st,K=>K d st
 |.need p r,K=>p∧r.holds K
 |.no,_=>False
def Qd:C→C
 |.p (.val (.bool b))=>.p (.bool b)
 |c=>c
theorem xh {S:Frz} {bs:List Value} (c:C) (v:Value) (h:MC S bs c v):MC S bs (Qd c) v:=by
 unfold Qd
 split
 · cases h;exact .bool _
 · exact h
def Uu:Option D→Option (List C)
 |some (.v (.one c))=>some [Qd c]
 |some (.v (.agg cs))=>some (cs.map Qd)
 |_=>none
def Vt:List C→List Nat
 |[]=>[]
 |.row k::cs=>k::Vt cs
 |.sub _ k _ _::cs=>k::Vt cs
 |_::cs=>Vt cs
def y7 (I:Alg):List Nat→St→St
 |[],st=>st
 |k::ks,st=>y7 I ks (st.freeze I k)
def rowsOf (o:Option D):List Nat:=match Uu o with|some cs=>Vt cs|none=>[]
def zf0 (I:Alg) (T:Tab) (st:St) (t:Nat) (x v:Operand):LR:=
 match T t,oneC (st.eval x) with
 | some e,some (.ptr k off)=>match Uu (st.eval v),nth st.hp k with
   | some ds,some (.obj ty cs)=>(match Nat.beq ds.length e.size,Nat.ble (off+ds.length) cs.length with
     |true,true=>.ok .bad { st with hp:=setN st.hp k (.obj ty (lay cs off ds))}
     |_,_=>.no)
   |_,_=>.no
 | some e,some (.ept u k i off)=>
   let st1:=y7 I (rowsOf (st.eval v)) st
   match Uu (st1.eval v),nth st1.hp k with
   | some ds,some (.row u' E l)=>(match uY (enc I u' (I.get l (dflt u') i)) (lay ((enc I u' (I.get l (dflt u') i)).map C.p) off ds),Nat.beq ds.length e.size,Nat.ble (off+ds.length) u.size,Nat.beq u.size u'.size with
     | some ps,true,true,true=>(match dec I u' ps with
       | some y=>(match tC I u' ps with
         |some p=>.need p (.need (I.inb i (I.len l)) (.ok .bad { st1 with hp:=setN st1.hp k (.row u' E (I.set l i y))}))
         |none=>.need (I.inb i (I.len l)) (.ok .bad { st1 with hp:=setN st1.hp k (.row u' E (I.set l i y))}))
       |none=>.no)
     |_,_,_,_=>.no)
   |_,_=>.no
 |_,_=>.no
def Yp (st:St) (o:HO) (c:C):LR:=.ok (.v (.one c)) { st with hp:=st.hp++[o]}
def ziy (T:Tab) (st:St) (t:Nat):LR:=
 match T t with
 |some e=>(match e.zero with|some z=>Yp st (.obj t (z.map zc)) (.ptr st.hp.length 0)|none=>.no)
 |none=>.no
def ziK:List P→Nat→Bool
 |[],0=>true
 |.int .u8 (.ofNat 0)::r,n+1=>ziK r n
 |_,_=>false
def arrL (I:Alg) (T:Tab) (st:St) (t:Nat):LR:=
 match T t with
 | some e=>(match e.ty,e.zero with
   |.array n _,some z=>(match ziK z n,Nat.ble n 1000000 with|true,true=>Yp st (.row .byte t (I.rep (Int.ofNat n) (I.i2b 0))) (.ept .byte st.hp.length 0 0)|_,_=>.no)
   |_,_=>.no)
 |none=>.no
def boxL (st:St) (t:Nat) (x:Operand):LR:=
 match Uu (st.eval x) with
 |some cs=>Yp st (.obj t cs) (.ptr st.hp.length 0)
 |none=>.no
def zii (T:Tab) (st:St) (s d:Nat) (x:Operand):LR:=
 match T s,T d,oneC (st.eval x) with
 | some ⟨.str,_,_,_,_⟩,some ⟨.slice e,_,_,_,some .byte⟩,some (.p (.str l))=>(match T e with
   |some ⟨.int .u8,_,_,_,_⟩=>Yp st (.row .byte e l) (.row st.hp.length)
   |_=>.no)
 |_,_,_=>.no
def zkF (I:Alg) (T:Tab) (st:St) (s d:Nat) (x:Operand):LR:=
 match Nat.beq s d,T s,oneC (st.eval x) with
 | true,some ⟨.slice e,_,_,_,_⟩,some (.row k)=>(match T e,nth st.hp k with
   |some ⟨.int .u8,_,_,_,_⟩,some (.row _ _ l)=>.need (I.inb 0 (I.len l)) (.ok (.v (.one (.row k))) st)
   |_,_=>.no)
 |_,_,_=>.no
def zmn (T:Tab) (s:Nat):Bool:=match T s with|some ⟨.str,_,_,_,_⟩=>true|_=>false
def zfA:(u u':U)→List u'.den→Option (List u.den)
 |.byte,.byte,l=>some l
 |.int,.int,l=>some l
 |.str,.str,l=>some l
 |.fld,.fld,l=>some l
 |.bytes,.bytes,l=>some l
 |.hd,.hd,l=>some l
 |.prt,.prt,l=>some l
 |.evt,.evt,l=>some l
 |.upl,.upl,l=>some l
 |.ent,.ent,l=>some l
 |.stp,.stp,l=>some l
 |.ask,.ask,l=>some l
 |.cal,.cal,l=>some l
 |.tri,.tri,l=>some l
 |.lst,.lst,l=>some l
 |.sst,.sst,l=>some l
 |.upls,.upls,l=>some l
 |.strs,.strs,l=>some l
 |.rpl,.rpl,l=>some l
 |.med,.med,l=>some l
 |.prw,.prw,l=>some l
 |_,_,_=>none
theorem Y2 {u u':U} {l:List u'.den} {m:List u.den} (h:zfA u u' l=some m): ∃ e:u'=u,e▸l=m:=by
 cases u<;>cases u'<;>first|(cases h;exact⟨rfl,rfl⟩)|cases h
def zf2 (I:Alg) (hp:List HO) (u:U) (c:C):Option (List u.den):=
 match c with
 |.nilS=>some []
 |.p (.str l)=>zfA u .byte l
 | c=>match cont I hp c with
   |some ⟨u',l⟩=>zfA u u' l
   |none=>none
def fewL (I:Alg) (bytes:Nat) (n:Int) (r:LR):LR:=match Nat.ble bytes 1 with|true=>.need (I.few n 140737488355328) r|false=>.need (I.few n 100000000) r
def zcM (I:Alg) (T:Tab) (st:St) (t ut:Nat) (s x:Operand):LR:=
 match T t,T ut,oneC (st.eval s),oneC (st.eval x) with
 | some ⟨.slice E,_,_,_,some u⟩,some ue,some cs,some cx=>(match ue.ty with
   |.int _=>.no
   |.other=>.no
   | _ =>match T E,zf2 I st.hp u cx with
     | some ee,some m=>(match Nat.ble ee.bytes 1000000,ee.zero with
       | true,some _=>(match cs with
         |.nilS=>fewL I ee.bytes (I.len m) (.ok (.v (.one (.row st.hp.length))) { st with hp:=st.hp++[.row u E m]})
         |.p (.nl l)=>.need (I.same (I.len l) 0) (fewL I ee.bytes (I.len m) (.ok (.v (.one (.row st.hp.length))) { st with hp:=st.hp++[.row u E m]}))
         | .row k=>(match nth st.hp k with
           | some (.row u' E' l')=>(match Nat.beq E E',zfA u u' l' with
             |true,some l=>fewL I ee.bytes (I.add (I.len l) (I.len m)) (.ok (.v (.one (.row st.hp.length))) { st with hp:=setN st.hp k .gone++[.row u E (I.app l m)]})
             |_,_=>.no)
           |_=>.no)
         |_=>.no)
       |_,_=>.no)
     |_,_=>.no)
 |_,_,_,_=>.no
def elems (I:Alg) (z:List P) (u:U):List (Option D)→Option (List u.den × List Prop)
 |[]=>some ([],[])
 | d ::ds=>match Uu d with
   | some cs=>(match uY z cs with
     | some ps=>(match dec I u ps,elems I z u ds with
       |some x,some (l,ns)=>(match tC I u ps with|some p=>some (x::l,p::ns)|none=>some (x::l,ns))
       |_,_=>none)
     |none=>none)
   |none=>none
def inOrder:Nat→List Nat→Bool
 |_,[]=>true
 |n,k::ks=>match Nat.beq n k with|true=>inOrder (n+1) ks|false=>false
def zdI:List Prop→LR→LR
 |[],r=>r
 |p::ps,r=>.need p (zdI ps r)
def ZO (I:Alg) (T:Tab) (st:St) (t n:Nat) (parts:Array (Nat × Operand)):LR:=
 let st1:=y7 I (parts.toList.flatMap fun p=>rowsOf (st.eval p.2)) st
 match T t with
 | some e=>(match e.ty,e.u with
   | .slice E,some u=>(match T E with
     |none=>.no
     | some ee=>match ee.zero with
       |none=>.no
       | some z=>match inOrder 0 (parts.toList.map (·.1)),Nat.beq n parts.toList.length,Nat.ble n 1000,elems I z u (parts.toList.map fun p=>st1.eval p.2) with
         |true,true,true,some (l,ns)=>zdI ns (Yp st1 (.row u E l) (.row st1.hp.length))
         |_,_,_,_=>.no)
   |_,_=>.no)
 |none=>.no
def zk2 (I:Alg) (T:Tab) (st:St) (t:Nat) (x y:Operand):LR:=
 match T t,intC (st.eval x),intC (st.eval y) with
 | some e,some n,some m=>(match e.ty,e.u with
   | .slice E,some u=>(match T E with
     | some ee=>(match ee.zero,Nat.beq ee.size 1,Nat.ble ee.bytes 1000 with
       | some z,true,true=>(match dec I u z,tC I u z with
         |some d,none=>.need (I.same n m) (.need (I.nng n) (.need (I.few n 1000000) (Yp st (.row u E (I.rep n d)) (.row st.hp.length))))
         |some d,some p=>.need p (.need (I.same n m) (.need (I.nng n) (.need (I.few n 1000000) (Yp st (.row u E (I.rep n d)) (.row st.hp.length)))))
         |_,_=>.no)
       |_,_,_=>.no)
     |none=>.no)
   |_,_=>.no)
 |_,_,_=>.no
def QS (I:Alg) (T:Tab) (st:St) (t ut:Nat) (s x:Operand):LR:=
 match T t,T ut,oneC (st.eval s),intC (st.eval x) with
 | some ⟨.slice E,_,_,_,some u⟩,some ⟨.int _,_,_,_,_⟩,some .nilS,some n=>(match T E with
   | some ee=>(match Nat.ble ee.bytes 1000,ee.zero with
     | true,some z=>(match dec I u z,tC I u z with
       |some d,none=>.need (I.nng n) (.need (I.few n 1000000) (Yp st (.row u E (I.rep n d)) (.row st.hp.length)))
       |some d,some p=>.need p (.need (I.nng n) (.need (I.few n 1000000) (Yp st (.row u E (I.rep n d)) (.row st.hp.length))))
       |_,_=>.no)
     |_,_=>.no)
   |none=>.no)
 |_,_,_,_=>.no
def zmp (T:Tab) (s:Nat):Bool:=match T s with|some ⟨.int _,_,_,_,_⟩=>true|_=>false
def zif (I:Alg) (T:Tab) (st:St) (t:Nat) (x:Operand):LR:=
 match T t,oneC (st.eval x) with
 | some ⟨.slice E,_,_,_,_⟩,some (.sub u k lo hi)=>(match T E,nth st.hp k with
   | some ee,some (.row u' E' l)=>(match ee.zero,Nat.beq u.size u'.size,Nat.beq ee.size u'.size with
     | some z,true,true=>(match dec I u' z,tC I u' z with
       |some d,none=>.need (I.cutb lo hi (I.len l)) (.ok (.tup []) { st with hp:=setN st.hp k (.row u' E' (I.app (I.cut l 0 lo) (I.app (I.rep (I.sub hi lo) d) (I.cut l hi (I.len l)))))})
       |_,_=>.no)
     |_,_,_=>.no)
   |_,_=>.no)
 |_,_=>.no
def lop (I:Alg) (T:Tab) (st:St):Op→LR
 |.store t x v=>zf0 I T st t x v
 |.alloc t=>ziy T st t
 |.box t x=>boxL st t x
 |.buildSlice t n parts=>ZO I T st t n parts
 |.makeSlice t x y=>zk2 I T st t x y
 |.convert s d x=>(match zmn T s with|true=>zii T st s d x|false=>zkF I T st s d x)
 | .call c=>match c.callee,c.args.toList,c.argTypes.toList with
   |.builtin .append,[s,x],[t,u]=>(match zmp T u with|true=>QS I T st t u s x|false=>zcM I T st t u s x)
   |.builtin .clear,[x],[t]=>zif I T st t x
   |_,_,_=>.no
 |_=>.no
section
variable {Pr:Program} {T:Tab} {X:Ctx} {st:St} {a:Act} {w:World} {S:Frz} {K:List CO}
def Does (Pr:Program) (a:Act) (w:World) (o:Oper) (v:Value) (w':World):Prop:=
 (execOp a.eval o).run Pr w=.ok (.value v) w'∨((execOp a.eval o).run Pr w=.ok .skip w'∧v=undef)
def yX (Pr:Program) (X:Ctx) (S:Frz) (K:List CO) (a:Act) (w:World) (o:Oper) (r:LR):Prop:=
 ∀ Q:D→St→Prop,r.holds Q→∃ v w' S' K' d st',Does Pr a w o v w'∧S.le S'∧Ext (K.map CO.base) (K'.map CO.base)∧Heap X st'.hp S' K' w'∧Env S' (K'.map CO.base) st' a∧MD S' (K'.map CO.base) d v∧Q d st'
variable {dst:Option Tmp} {ty:TypeId} {pos:String} {af:Array Edge} {gd:Option (Nat × Bool)}
theorem lno {o:Oper}:yX Pr X S K a w o .no:=fun _ hq=>hq.elim
theorem qf {o:Oper} {p:Prop} {r:LR} (h:p→yX Pr X S K a w o r):yX Pr X S K a w o (.need p r):=fun Q hq=>h hq.1 Q hq.2
theorem Heap.sit (hT:T.fits Pr) (hH:Heap X st.hp S K w) (hE:Env S (K.map CO.base) st a):Sit Pr T S K X.fr st a w:=⟨hT,hH.2.2.1,hH.2.2.2,hE⟩
theorem wZ (hH:Heap X st.hp S K w) (hE:Env S (K.map CO.base) st a) {o:Oper} {v:Value} {w':World} {ho:HO} {co:CO} {c:C} (hd:Does Pr a w o v w')
  (hw: ∀ L,At w L→At w' (co.chunk::L)) (hr:Rel S ((K++[co]).map CO.base) ho co) (hm:MC S ((K++[co]).map CO.base) c v):yX Pr X S K a w o (Yp st ho c):=by
 intro Q hq
 have he:Ext (K.map CO.base) ((K++[co]).map CO.base):=by rw [List.map_append];exact Ext.append _ _
 refine⟨v,w',S,K++[co],.v (.one c),{ st with hp:=st.hp++[ho]},hd,Frz.le.refl S,he,⟨hH.1,fun k v h=>he k v (hH.2.1 k v h),?_,?_⟩,⟨hE.size,hE.defers.mono (Frz.le.refl S) he,fun t d h=>(hE.slots t d h).mono (Frz.le.refl S) he⟩,hm,hq⟩
 · exact(hH.2.2.1.mono (Frz.le.refl S) he).push hr
 · exact At.more (hw _ hH.2.2.2)
theorem uU {bs:List Value} {d:Option D} {cs:List C} {x:Value} (h:Uu d=some cs) (hm: ∀ d',d=some d'→MD S bs d' x): ∃ vs:List Value,x.cells=vs.toArray∧MCs S bs cs vs:=by
 unfold Uu at h
 split at h
 · rename_i c
   cases h;have h0:=hm _ rfl;have h1:=MC.one (S:=S) (bs:=bs) h0;refine⟨[x],?_,xh _ _ h0,trivial⟩
   cases x<;>first|rfl|(simp [Value.oneCell'] at h1)
 · cases h
   obtain⟨vs,hvs,rfl⟩:=hm _ rfl;exact⟨vs,rfl,hvs.map xh⟩
 · cases h
theorem yO (K:List CO) (c:CO):((K++[c]).map CO.base)[K.length]? =some c.base:=by simp
theorem zcN (hT:T.fits Pr) (hH:Heap X st.hp S K w) (hE:Env S (K.map CO.base) st a) {t:Nat}:yX Pr X S K a w ⟨dst,.alloc t,ty,pos,af,gd⟩ (ziy T st t):=by
 unfold ziy
 split
 · rename_i e he
   split
   · rename_i z hz
     obtain⟨i,zv,hi,hzv,hzf,hzl⟩:=TE.zero' (Tab.get hT he) hz;refine wZ (v:=.pointer (some ⟨w.heap.size,0,none⟩)) (w':=w.alloc (.cells zv.cells t)) (co:=.obj w.heap.size t zv.cells.toList) hH hE (.inl ?_) (fun L hL=> ?_) ?_ ?_
     · simp [execOp,Instr.alloc,newVar,newRow,zeroValue,typeInfo,hi,hzv]
     · have:=hL.Va zv.cells.toList t
       simpa [CO.chunk] using this
     · exact .obj (zcU hzf)
     · rw [hH.2.2.1.1]
       exact⟨_,yO _ _,rfl⟩
   · exact lno
 · exact lno
theorem uX {S:Frz} (l:Str):(bvs l).length=l.length * U.byte.size∧∀ (i:Nat) (x:U.byte.den) (j:Nat) (p:P) (v:Value),l[i]? =some x→(enc alg .byte x)[j]? =some p→(bvs l)[i * U.byte.size+j]? =some v→MP S p v:=by
 refine⟨by simp [U.size],fun i x j p v hi hj hv=> ?_⟩
 cases j with
 | zero=>
   simp only [enc,List.getElem?_cons_zero,jr] at hj;subst hj;simp only [U.size,Nat.mul_one,Nat.add_zero] at hv;rw [bvs_getElem?,hi] at hv;cases hv;exact .int _ _
 |succ j=>simp [enc] at hj
theorem UK: ∀ {z:List P} {n:Nat} {vs:List Value},ziK z n=true→yC vs z=true→vs=bvs (List.replicate n 0)
 | [],n,vs,h1,h2=>by
   cases n with
   | zero=>cases vs with
     |nil=>rfl
     |cons v vs=>unfold yC at h2;split at h2<;>simp_all
   |succ n=>cases h1
 | p ::z,n,vs,h1,h2=>by
   unfold ziK at h1
   split at h1
   · rename_i e;cases e
   · rename_i r n' e
     cases e;unfold yC at h2
     split at h2
     · rename_i e2;cases e2
     · rename_i k vs' k' ps e2
       cases e2;simp only [jJ] at h2;rw [vV h2.1,UK h1 h2.2];rfl
     all_goals first|(rename_i e2;cases e2;done)|(cases h2;done)|(rename_i e2;injection e2 with e3 e4;cases e3)
   · cases h1
theorem ziv (hT:T.fits Pr) (hH:Heap X st.hp S K w) (hE:Env S (K.map CO.base) st a) {t:Nat}:yX Pr X S K a w ⟨dst,.alloc t,ty,pos,af,gd⟩ (arrL alg T st t):=by
 unfold arrL
 split
 · rename_i e he
   split
   · rename_i n el z hety hz
     split
     · rename_i hb1 hb2
       have hb2:=Nat.le_of_ble_eq_true hb2;obtain⟨i,zv,hi,hzv,hzf,hzl⟩:=TE.zero' (Tab.get hT he) hz;have hvs:=UK hb1 hzf;obtain⟨h1,h2⟩:=uX (S:=S) (List.replicate n 0);have hrep:alg.rep (Int.ofNat n) (alg.i2b 0)=List.replicate n (0:UInt8):=rfl;rw [hrep]
       have hcs:zv.cells.size=n * 1:=by rw [← Array.length_toList,hvs];simp
       refine wZ (v:=.pointer (some ⟨w.heap.size,0,none⟩)) (w':=w.alloc (.cells zv.cells t)) (co:=.row t 1 (some ⟨w.heap.size,0,none⟩) (List.replicate n (0:UInt8)).length n (bvs (List.replicate n 0))) hH hE (.inl ?_) (fun L hL=> ?_) ?_ ?_
       · simp [execOp,Instr.alloc,newVar,newRow,zeroValue,typeInfo,hi,hzv]
       · have:=hL.Zp t 1 n zv.cells (0,0) hcs (by simp only [maxLen];omega) (xA _)
         rw [hvs] at this
         simpa [CO.chunk] using this
       · exact .row (u:=.byte) h1 h2
       · rw [hH.2.2.1.1]
         exact⟨_,_,_,yO _ _,Int.le_refl _,by simp [adr,blk,ofs]⟩
     · exact lno
   · exact lno
 · exact lno
theorem Heap.eval (hT:T.fits Pr) (hH:Heap X st.hp S K w) (hE:Env S (K.map CO.base) st a) (x:Operand): ∀ d,st.eval x=some d→MD S (K.map CO.base) d (a.eval x):=fun _ hd=>(hH.sit hT hE).eval hd
theorem zim (hT:T.fits Pr) (hH:Heap X st.hp S K w) (hE:Env S (K.map CO.base) st a) {t:Nat} {x:Operand}:yX Pr X S K a w ⟨dst,.box t x,ty,pos,af,gd⟩ (boxL st t x):=by
 unfold boxL
 split
 · rename_i cs hcs
   obtain⟨vs,hvc,hm⟩:=uU hcs (hH.eval hT hE x)
   have he:Ext (K.map CO.base) ((K++[CO.obj w.heap.size t vs]).map CO.base):=by rw [List.map_append];exact Ext.append _ _
   refine wZ (v:=.pointer (some ⟨w.heap.size,0,none⟩)) (w':=w.alloc (.cells vs.toArray t)) (co:=.obj w.heap.size t vs) hH hE (.inl ?_) (fun L hL=> ?_) (.obj (hm.mono (Frz.le.refl S) he)) ?_
   · simp [execOp,Instr.box,newVar,newRow,hvc]
   · simpa [CO.chunk] using hL.Va vs t
   · rw [hH.2.2.1.1]
     exact⟨_,yO _ _,rfl⟩
 · exact lno
theorem zcB (hT:T.fits Pr) (hH:Heap X st.hp S K w) (hE:Env S (K.map CO.base) st a) {s d:Nat} {x:Operand}:yX Pr X S K a w ⟨dst,.convert s d x,ty,pos,af,gd⟩ (zii T st s d x):=by
 unfold zii
 split
 · rename_i s1 s2 s3 s4 e d1 d2 d3 l hs hd hc
   split
   · rename_i e1 e2 e3 e4 he
     have hm:=(hH.sit hT hE).one hc;obtain⟨ds,is,hus,-,htys,-⟩:=TE.und (Tab.get hT hs);obtain⟨dd,id,hud,-,htyd,-⟩:=TE.und (Tab.get hT hd);obtain⟨de,ie,hue,-,htye,-⟩:=TE.und (Tab.get hT he);have:=yu htyd;subst this;have:=fits_int htye;subst this;generalize hx:a.eval x=xv at hm
     cases hm with
     | str _ hl=>
       have hge:=grownCap_ge w l.length 0 e;obtain⟨h1,h2⟩:=uX (S:=S) l;refine wZ (v:=.slice (some ⟨w.heap.size,0,none⟩) l.length (grownCap w l.length 0 e)) (w':=Lib.bytesWorld w e (Sep.S l)) (co:=.row e 1 (some ⟨w.heap.size,0,none⟩) l.length (grownCap w l.length 0 e) (bvs l)) hH hE (.inl ?_) (fun L hL=> ?_) ?_ ?_
       · have:=Lib.run_convert_string_bytes w s d e (Sep.S l) hus hud hue
         simp only [ziG] at this;simp only [execOp,hx,Sem.run_bind,this,Result.andThen_ok,Sem.run_pure]
       · refine hL.new (A':=fun k=>k=w.heap.size) ⟨fun k=>⟨fun h=>by rw [h];rfl,fun h=>by cases h;rfl⟩,by simp,.inr ⟨w.heap.size,_,_,_,rfl,Lib.bytesWorld_at_new w e (Sep.S l),?_,hge,grownCap_le_maxLen w l.length 0 e hl,?_,?_⟩⟩ (fun k h=>by omega) ⟨rfl,rfl,rfl,by rw [Lib.bytesWorld_size];omega,fun k hk=>Lib.bytesWorld_at_old w e (Sep.S l) k hk⟩
         · exact .inr (jK _)
         · simp [Lib.bytesCells];omega
         · rw [Nat.mul_one,Lib.bytesCells,Array.toList_append,List.take_left' (by simp)]
           simp [bvs,bv]
       · exact .row (u:=.byte) h1 h2
       · rw [hH.2.2.1.1]
         exact⟨yO _ _,_,_,_,rfl⟩
   · exact lno
 · exact lno
theorem zcg: ∀ (vs us:List Value) (o:Nat),o+vs.length≤us.length→layV us o vs=us.take o++vs++us.drop (o+vs.length)
 |[],us,o,_=>by simp [layV]
 | v::vs,us,o,h=>by
   simp only [layV]
   rw [zcg vs (us.set o v) (o+1) (by simp at h ⊢;omega)]
   exact list_seg_step us o v vs (by simp at h;omega)
theorem sS {t:Nat} {g off:Nat} {cur:Array Value} {E:Nat} {fz:Nat × Nat} {v:Value} {vs:List Value} (hv:v.cells=vs.toArray) (h1: ∀ x ∈ vs,x.oneCell'=true) (hs:(Pr.info? t).map (·.size)=some vs.length)
  (hg:w.heap[g]? =some (.cells cur E fz)) (hfz:Free fz cur.size) (hl:off+vs.length≤cur.size):
  (Instr.storeAt t (.pointer (some ⟨g,off,none⟩)) v).run Pr w=.ok () (w.setRow g (layV cur.toList off vs).toArray):=by
 obtain⟨inf,hi,hz⟩: ∃ inf,Pr.info? t=some inf∧inf.size=vs.length:=by
  cases h:Pr.info? t with
  |none=>simp [h] at hs
  |some inf=>exact⟨inf,rfl,by simpa [h] using hs⟩
 have hst:=yA Pr g off E fz vs 0 cur w hg hfz (by omega) h1
 rw [zcg vs cur.toList off (by simpa using hl)]
 simp only [Nat.add_zero] at hst
 simp [Instr.storeAt,Instr.sureAddr,storeVar,sizeOf,typeInfo,hi,hz,hv,hst]
theorem zdS: ∀ (us p m r:List Value) (off:Nat),off+us.length≤m.length→layV (p++m++r) (p.length+off) us=p++layV m off us++r
 |[],p,m,r,off,_=>rfl
 | u ::us,p,m,r,off,h=>by
   have h1:off<m.length:=by simp at h;omega
   have e:(p++m++r).set (p.length+off) u=p++m.set off u++r:=by
    rw [jk,List.set_append_right _ _ (by omega),Nat.add_sub_cancel_left,List.set_append_left _ _ h1,jk]
   simp only [layV];rw [e,Nat.add_assoc]
   exact zdS us p _ r (off+1) (by simp at h ⊢;omega)
theorem MCs.lay {bs:List Value} {ds cs:List C} {vs us:List Value} (o:Nat) (h1:MCs S bs ds vs) (h2:MCs S bs cs us):MCs S bs (lay cs o ds) (layV us o vs):=VN o h1 h2
theorem ZJ: ∀ (ds cs:List Value) (o:Nat),(layV cs o ds).length=cs.length
 |[],cs,o=>rfl
 |d::ds,cs,o=>by simp only [layV];rw [ZJ ds];simp
theorem yR (hH:Heap X st.hp S K w) (hE:Env S (K.map CO.base) st a) (ks:List Nat):
  ∃ S' K',S.le S'∧K'.map CO.base=K.map CO.base∧Heap X (y7 alg ks st).hp S' K' w∧Env S' (K'.map CO.base) (y7 alg ks st) a:=by
 induction ks generalizing st S K with
 |nil=>exact⟨S,K,Frz.le.refl S,rfl,hH,hE⟩
 | cons k ks ih=>
   obtain⟨S1,K1,h1,h2,h3,h4⟩:=za3 hH hE k;obtain⟨S2,K2,h5,h6,h7,h8⟩:=ih h3 h4;exact⟨S2,K2,h1.trans h5,h6.trans h2,h7,h8⟩
theorem zkG {u:U} {l:List u.den} {vs:List Value} (hlen:vs.length=l.length * u.size)
  (hx: ∀ (i:Nat) (x:u.den) (j:Nat) (p:P) (v:Value),l[i]? =some x→(enc alg u x)[j]? =some p→vs[i * u.size+j]? =some v→MP S p v) {i:Nat} (hi:i<l.length) {y:u.den} {us:List Value} (hm:MPs S (enc alg u y) us):
  (vs.take (i * u.size)++us++vs.drop (i * u.size+u.size)).length=(l.set i y).length * u.size∧
  ∀ (i':Nat) (x:u.den) (j:Nat) (p:P) (v:Value),(l.set i y)[i']? =some x→(enc alg u x)[j]? =some p→(vs.take (i * u.size)++us++vs.drop (i * u.size+u.size))[i' * u.size+j]? =some v→MP S p v:=by
 have hul:us.length=u.size:=by rw [hm.length,yJ]
 have hle:i * u.size+u.size≤vs.length:=by rw [hlen,← Nat.succ_mul];exact Nat.mul_le_mul_right _ hi
 refine⟨by simp only [jg,jq,jB,List.length_set,hul];rw [← hlen];omega,fun i' x j p v h1 h2 h3=> ?_⟩
 have hj:j<u.size:=by have:=(jh.1 h2).1;rw [yJ] at this;exact this
 rw [List.getElem?_set] at h1
 rcases Nat.lt_trichotomy i' i with hlt|heq|hgt
 · rw [if_neg (by omega)] at h1
   have h4:i' * u.size+j<i * u.size:=by
    have:i' * u.size+u.size≤i * u.size:=by rw [← Nat.succ_mul];exact Nat.mul_le_mul_right _ hlt
    omega
   rw [jk,jw (by simp;omega),jC,if_pos h4] at h3
   exact hx i' x j p v h1 h2 h3
 · subst heq
   rw [if_pos rfl,if_pos hi] at h1;cases h1
   rw [jk,jy (by simp;omega),jw (by simp;omega)] at h3
   have e1:i' * u.size+j - (vs.take (i' * u.size)).length=j:=by rw [jq];omega
   rw [e1] at h3;obtain⟨v',h5,h6⟩:=hm.get h2;rw [h5] at h3;cases h3;exact h6
 · rw [if_neg (by omega)] at h1
   have h4:i * u.size+u.size≤i' * u.size:=by rw [← Nat.succ_mul];exact Nat.mul_le_mul_right _ hgt
   rw [jy (by simp;omega)] at h3
   rw [jF] at h3;refine hx i' x j p v h1 h2 ?_;rw [← h3]
   congr 1
   simp only [jg,jq,hul];omega
theorem zbT (hT:T.fits Pr) (hH:Heap X st.hp S K w) (hE:Env S (K.map CO.base) st a) {t:Nat} {x y:Operand}:yX Pr X S K a w ⟨dst,.store t x y,ty,pos,af,gd⟩ (zf0 alg T st t x y):=by
 intro Q hq;unfold zf0 at hq
 split at hq
 · rename_i e k off he hc
   have hf:=Tab.get hT he
   split at hq
   · rename_i ds ty' cs hds ho
     split at hq
     · rename_i hb1 hb2
       have hb1:=jH hb1;have hb2:=Nat.le_of_ble_eq_true hb2;rw [yc] at ho;have hsit:=hH.sit hT hE;obtain⟨b,vs,L,hk,hm,hat⟩:=hsit.obj ho;have hpt:=hsit.one hc;obtain⟨us,hvc,hum⟩:=uU hds (hH.eval hT hE y);generalize hx:a.eval x=xv at hpt;obtain⟨b',hb',rfl⟩:=hpt;rw [zS hk] at hb';simp only [CO.base,jr,Value.pointer.injEq,Addr.mk.injEq,and_true] at hb';subst hb';have hl1:=hm.length;have hl2:=hum.length
       have hrun:=sS (Pr:=Pr) (t:=t) (off:=off) hvc hum.one (by rw [TE.size' hf,hl2,hb1]) hat.obj (xA _) (by simp;omega)
       have hbs:(K.set k (.obj b ty' (layV vs off us))).map CO.base=K.map CO.base:=yw hk rfl
       refine⟨undef,w.setRow b (layV vs off us).toArray,S,K.set k (.obj b ty' (layV vs off us)),.bad,{ st with hp:=setN st.hp k (.obj ty' (lay cs off ds))},.inr ⟨?_,rfl⟩,Frz.le.refl S,by rw [hbs];exact Ext.refl _,⟨hH.1,by rw [hbs];exact hH.2.1,?_,?_⟩,?_,trivial,hq⟩
       · simp only [execOp,hx,Sem.run_bind,hrun,Result.andThen_ok,Sem.run_pure]
       · rw [hbs]
         simp only;rw [yE];exact hH.2.2.1.set k (.obj (MCs.lay off hum hm))
       · refine At.turn hH.2.2.2 hk _ fun L hL=> ?_
         refine hL.step fun A hA=>⟨A,⟨hA.1,?_⟩,fun _ h=>.inl h,(yU w b _).mono fun k hk e=>hk.2 ((hA.1 k).2 e)⟩;exact setRow_heap w b _ _ ty' (0,0) hA.2
       · rw [hbs];exact⟨hE.size,hE.defers,hE.slots⟩
     · exact hq.elim
   · exact hq.elim
 · rename_i e u k i off he hc
   have hf:=Tab.get hT he;obtain⟨S1,K1,hle1,hbs1,hH1,hE1⟩:=yR hH hE (rowsOf (st.eval y));simp only at hq;generalize hst1:y7 alg (rowsOf (st.eval y)) st=st1 at hq hH1 hE1
   split at hq
   · rename_i ds u' E l hds ho
     split at hq
     · rename_i ps hps hb1 hb2 hb3
       have hb1:=jH hb1;have hb2:=Nat.le_of_ble_eq_true hb2;have hb3:=jH hb3
       split at hq
       · rename_i z hz
         have fin:(∀ p,tC alg u' ps=some p→p)→alg.inb i (alg.len l)→Q .bad { st1 with hp:=setN st1.hp k (.row u' E (alg.set l i z))}→
           ∃ v w' S' K' d st',Does Pr a w ⟨dst,.store t x y,ty,pos,af,gd⟩ v w'∧S.le S'∧Ext (K.map CO.base) (K'.map CO.base)∧Heap X st'.hp S' K' w'∧Env S' (K'.map CO.base) st' a∧MD S' (K'.map CO.base) d v∧Q d st':=by
          intro hneed hinb hQ;have hpt:=(hH.sit hT hE).one hc;rw [← hbs1] at hpt;rw [yc] at ho;obtain⟨ao,cap,vs,hk,hlen,hxs,hrd⟩:=(hH1.sit hT hE1).row ho;obtain⟨us,hvc,hum⟩:=uU hds (hH1.eval hT hE1 y);generalize hx:a.eval x=xv at hpt;obtain⟨ao',n',cap',hb',hi0,rfl⟩:=hpt;rw [zS hk] at hb';simp only [CO.base,jr,Value.slice.injEq] at hb';obtain⟨rfl,rfl,rfl⟩:=hb';have hl2:=hum.length;obtain⟨hold,hold2⟩:=Xy hlen hxs hinb;have hnew:=MCs.lay (bs:=K1.map CO.base) off hum (hold.mcs);have hnp:=yT hps hnew;have hnp:=YX hz hneed hnp;rw [vP,yh] at hinb
          have hilt:i.toNat<l.length:=by omega
          obtain⟨hr1,hr2⟩:=zkG hlen hxs hilt hnp;obtain⟨L,hat⟩:=(hH1.sit hT hE1).chunk hk;obtain⟨A,hA⟩:=hat.head
          obtain⟨hF,hA2,⟨hv,hn0⟩|⟨g,cap2,cur,fz,hv,hg,hfree,hnc,hcm,hcs,ht⟩⟩:=hA
          · omega
          cases hv
          have hle:i.toNat * u'.size+u'.size≤l.length * u'.size:=by rw [← Nat.succ_mul];exact Nat.mul_le_mul_right _ hilt
          have hle2:=Nat.mul_le_mul_right u'.size hnc;rw [hb3] at hb2 hx
          have hrun:=sS (Pr:=Pr) (w:=w) (t:=t) (off:=i.toNat * u'.size+off) hvc hum.one (by rw [TE.size' hf,hl2,hb1]) hg hfree (by omega)
          obtain⟨p,m,r,hpm,hp,hml⟩: ∃ p m r,cur.toList=p++m++r∧p.length=i.toNat * u'.size∧m.length=u'.size:=
           ⟨cur.toList.take (i.toNat * u'.size),(cur.toList.drop (i.toNat * u'.size)).take u'.size,(cur.toList.drop (i.toNat * u'.size)).drop u'.size,by rw [jk,List.take_append_drop,List.take_append_drop],by simp;omega,by simp;omega⟩
          have e1:layV cur.toList (i.toNat * u'.size+off) us=p++layV m off us++r:=by
           rw [hpm,← hp];exact zdS us p m r off (by omega)
          have hvs:vs=p++m++r.take (l.length * u'.size - (p++m).length):=by
           rw [← ht,hpm,List.take_append,jl (by simp;omega)]
          have e2:(vs.drop (i.toNat * u'.size)).take u'.size=m:=by
           rw [hvs,← hp,jk,List.drop_left,← hml,List.take_left]
          have e3:vs.take (i.toNat * u'.size)=p:=by rw [hvs,← hp,jk,List.take_left]
          have e4:vs.drop (i.toNat * u'.size+u'.size)=r.take (l.length * u'.size - (p++m).length):=by
           rw [hvs,show i.toNat * u'.size+u'.size=(p++m).length by simp;omega,List.drop_left]
          rw [e1] at hrun;rw [e2] at hr1 hr2;rw [e3,e4] at hr1 hr2;have hml2:(layV m off us).length=m.length:=ZJ _ _ _
          have e5:(p++layV m off us++r).take (l.length * u'.size)=p++layV m off us++r.take (l.length * u'.size - (p++m).length):=by
           rw [List.take_append,jl (by simp;omega)]
           simp [hml2]
          have hcl:(p++layV m off us++r).length=cur.size:=by
           have:cur.toList.length=cur.size:=by simp
           rw [← this,hpm];simp [hml2]
          have hsl:(alg.set l i z).length=l.length:=by rw [Uz];simp
          have hbs:(K1.set k (.row E u'.size (some ⟨g,0,none⟩) (alg.set l i z).length cap (p++layV m off us++r.take (l.length * u'.size - (p++m).length)))).map CO.base=K1.map CO.base:=yw hk (by simp only [CO.base,hsl])
          refine⟨undef,w.setRow g (p++layV m off us++r).toArray,S1,K1.set k (.row E u'.size (some ⟨g,0,none⟩) (alg.set l i z).length cap (p++layV m off us++r.take (l.length * u'.size - (p++m).length))),.bad,{ st1 with hp:=setN st1.hp k (.row u' E (alg.set l i z))},.inr ⟨?_,rfl⟩,hle1,by rw [hbs,hbs1];exact Ext.refl _,⟨hH1.1,by rw [hbs];exact hH1.2.1,?_,?_⟩,?_,trivial,hQ⟩
          · have e6:adr (some (⟨g,0,none⟩:Addr)) (i.toNat * u'.size+off)=⟨g,i.toNat * u'.size+off,none⟩:=by simp [adr,blk,ofs]
            rw [e6] at hx;simp only [execOp,hx,Sem.run_bind,hrun,Result.andThen_ok,Sem.run_pure]
          · rw [hbs]
            simp only;rw [yE];exact hH1.2.2.1.set k (.row hr1 hr2)
          · refine At.turn hH1.2.2.2 hk _ fun L hL=> ?_
            refine hL.step fun A hA=>⟨A,⟨?_,hr1,.inr ⟨g,cap,(p++layV m off us++r).toArray,fz,rfl,setRow_heap w g cur _ E fz hg,?_,by rw [hsl];exact hnc,hcm,?_,?_⟩⟩,fun _ h=>.inl h,(yU w g _).mono fun k hk e=>hk.2 ((hA.1 k).2 (by simp [Value.ownBlock,e]))⟩
            · intro k;rw [hA.1 k];simp [Value.ownBlock]
            · simpa only [List.size_toArray,hcl] using hfree
            · simpa only [List.size_toArray,hcl] using hcs
            · rw [hsl];exact e5
          · rw [hbs];exact⟨hE1.size,hE1.defers,hE1.slots⟩
         split at hq
         · rename_i p hp
           exact fin (fun p' hp'=>by rw [hp] at hp';cases hp';exact hq.1) hq.2.1 hq.2.2
         · rename_i hp
           exact fin (fun p' hp'=>by rw [hp] at hp';cases hp') hq.1 hq.2
       · exact hq.elim
     · exact hq.elim
   · exact hq.elim
 · exact hq.elim
def Elts (S:Frz) (u:U) (l:List u.den) (vs:List Value):Prop:=
 vs.length=l.length * u.size∧∀ (i:Nat) (x:u.den) (j:Nat) (p:P) (v:Value),l[i]? =some x→(enc alg u x)[j]? =some p→vs[i * u.size+j]? =some v→MP S p v
theorem Elts.nil (S:Frz) (u:U):Elts S u [] []:=⟨by simp,fun i x j p v h=>by simp at h⟩
theorem Elts.mono {S S':Frz} (hle:S.le S') {u:U} {l:List u.den} {vs:List Value} (h:Elts S u l vs):Elts S' u l vs:=⟨h.1,fun i x j p v a b c=>(h.2 i x j p v a b c).mono hle⟩
theorem Elts.append {S:Frz} {u:U} {l m:List u.den} {vs us:List Value} (h:Elts S u l vs) (k:Elts S u m us):Elts S u (l++m) (vs++us):=by
 refine⟨by rw [jg,jg,h.1,k.1,Nat.add_mul],fun i x j p v h1 h2 h3=> ?_⟩
 have hj:j<u.size:=by have:=(jh.1 h2).1;rw [yJ] at this;exact this
 rcases Nat.lt_or_ge i l.length with hi|hi
 · rw [jw hi] at h1
   have h4:i * u.size+u.size≤vs.length:=by rw [h.1,← Nat.succ_mul];exact Nat.mul_le_mul_right _ hi
   rw [jw (by omega)] at h3
   exact h.2 i x j p v h1 h2 h3
 · rw [jy hi] at h1
   have h4:l.length * u.size≤i * u.size:=Nat.mul_le_mul_right _ hi
   rw [jy (by rw [h.1];omega)] at h3
   refine k.2 (i - l.length) x j p v h1 h2 ?_;rw [← h3]
   congr 1
   rw [h.1,Nat.sub_mul];omega
theorem Elts.one {S:Frz} {u:U} {x:u.den} {vs:List Value} (h:MPs S (enc alg u x) vs):Elts S u [x] vs:=by
 have hl:=h.length;rw [yJ] at hl
 refine⟨by simp [hl],fun i y j p v h1 h2 h3=> ?_⟩
 cases i with
 | zero=>
   simp at h1;subst h1
   simp only [Nat.zero_mul,Nat.zero_add] at h3;obtain⟨v',h4,h5⟩:=h.get h2;rw [h4] at h3;cases h3;exact h5
 |succ i=>simp at h1
theorem Elts.oneCell {S:Frz} {u:U} {l:List u.den} {vs:List Value} (h:Elts S u l vs): ∀ v ∈ vs,v.oneCell'=true:=by
 intro v hv;obtain⟨m,hm⟩:=List.getElem?_of_mem hv;have hlt:=(jh.1 hm).1;have h0:=Vf u
 have hd:m / u.size<l.length:=by rw [h.1] at hlt;exact Nat.div_lt_of_lt_mul (by rw [Nat.mul_comm];exact hlt)
 have hmod:=Nat.mod_lt m h0
 have hj:m % u.size<(enc alg u l[m / u.size]).length:=by rw [yJ];exact hmod
 refine(h.2 (m / u.size) _ (m % u.size) _ v (ji hd) (ji hj) ?_).one;rw [← hm]
 congr 1
 rw [Nat.mul_comm];exact Nat.div_add_mod m u.size
theorem ZA (hT:T.fits Pr) (hH:Heap X st.hp S K w) (hE:Env S (K.map CO.base) st a) {u:U} {c:C} {m:List u.den} {v:Value} (h:zf2 alg st.hp u c=some m) (hm:MC S (K.map CO.base) c v):
  ∃ us,Src Pr w u.size v m.length us∧Elts S u m us:=by
 unfold zf2 at h
 split at h
 · cases h;cases hm
   exact⟨[],⟨by simp,fun w'=>rfl,fun w' _=>by simp [Builtin.firstCells]⟩,Elts.nil S u⟩
 · rename_i l
   obtain⟨e,he⟩:=Y2 h;subst e;subst he;cases hm;refine⟨bvs l,?_,uX l⟩;exact zmM l
 · split at h
   · rename_i u' l hc
     obtain⟨e,he⟩:=Y2 h;subst e;subst he;obtain⟨ao,cap,vs,rfl,hnc,hlen,hrd,hx⟩:=(hH.sit hT hE).cont hm hc;exact⟨vs,hrd.src,hlen,hx⟩
   · cases h
theorem uD {k:Nat} {c:CO} {fr:List Chunk} (hc:K[k]? =some c) (H:At w (frzC S::(CO.zl K++fr))): ∃ p r,K=p++c::r∧(∀ d,K.set k d=p++d::r)∧At w (c.chunk::frzC S::((CO.zl p++CO.zl r)++fr)):=by
 obtain⟨p,r,h1,_,h3⟩:=yM hc;refine⟨p,r,h1,h3,?_⟩;rw [h1,zA] at H;exact H.perm (zK _ _ _ _ _)
theorem yQ (c a:Chunk) (l fr:List Chunk):(c::a::(l++fr)).Perm (a::(l++c::fr)):=
 (List.Perm.swap _ _ _).trans (List.perm_middle.symm.cons a)
def FewB (bytes:Nat) (n:Int):Prop:=(bytes≤1∧n≤140737488355328)∨n≤100000000
theorem FewB.max {b:Nat} {n:Int} (h:FewB b n):n≤140737488355328:=by rcases h with h|h<;>omega
theorem lfew {o:Oper} {b:Nat} {n:Int} {r:LR} (h:FewB b n→yX Pr X S K a w o r):yX Pr X S K a w o (fewL alg b n r):=by
 unfold fewL
 split
 · rename_i hb
   exact qf fun h0=>h (.inl ⟨Nat.le_of_ble_eq_true hb,by rw [tJ] at h0;exact h0⟩)
 · exact qf fun h0=>h (.inr (by rw [tJ] at h0;exact h0))
theorem ZR (hT:T.fits Pr) {t ut E:Nat} {s x:Operand} {u:U} {l m:List u.den} {us vs:List Value} {z:Option (List P)} {n1 n2:Nat} {ue ee:TE}
  (hte:T t=some ⟨.slice E,n1,n2,z,some u⟩) (hue:T ut=some ue) (hni: ∀ k,ue.ty≠ .int k) (hno:ue.ty≠ .other) (hee:T E=some ee) (hby:ee.bytes≤1000000) {zz:List P} (hez:ee.zero=some zz)
  {sv xv:Value} (hs:a.eval s=sv) (hx:a.eval x=xv) {L:List Chunk} (H:At w (rowC E u.size sv l.length vs::L)) (hsrc:Src Pr w u.size xv m.length us) (hm:Elts S u m us) (hfew:FewB ee.bytes ((l.length:Int)+(m.length:Int))):
  ∃ ao cap w',Does Pr a w ⟨dst,.call { callee:=.builtin .append,args:= #[s,x],argTypes:= #[t,ut]},ty,pos,af,gd⟩ (.slice ao (l++m).length cap) w'∧At w' (rowC E u.size (.slice ao (l++m).length cap) (l++m).length (vs++us)::L):=by
 obtain⟨dt,it,hut,-,htyt,-⟩:=TE.und (Tab.get hT hte);have:=yu htyt;subst this;obtain⟨du,iu,huu,-,htyu,-⟩:=TE.und (Tab.get hT hue);have hfe:=Tab.get hT hee;obtain⟨de,ie,hde,hie,_,hsz,hbytes⟩:=TE.und hfe;obtain⟨ie',zv,hie',hzv,hzf,hzl⟩:=TE.zero' hfe hez;rw [hie] at hie';cases hie';obtain⟨el,ee',hel,hee',hes,_⟩:=TE.elem (Tab.get hT hte) rfl;cases hel;rw [hee] at hee';cases hee'
 have hzs:zv.cells.size=u.size:=by
  have:=(tK (S:=S) hzf).length;rw [hzl,hes] at this
  simpa using this
 have hud: ∀ k,du≠ .int k:=by
  intro k e;subst e
  cases hty:ue.ty<;>rw [hty] at htyu<;>simp [Ty.fits] at htyu
  · exact hni _ hty
  · exact hno hty
 have hlm:(l++m).length=l.length+m.length:=jg
 have hb0:ee.bytes=ie.bytes:=by omega
 rw [hb0] at hfew hby;have hmax:=hfew.max
 have hmul:(l.length+m.length) * ie.bytes≤140737488355328:=by
  rcases hfew with⟨h1,h2⟩|h2
  · have:=Nat.mul_le_mul (show l.length+m.length≤140737488355328 by omega) h1;omega
  · have:=Nat.mul_le_mul (show l.length+m.length≤100000000 by omega) hby;omega
 obtain⟨v',w',hr,hA⟩:=UW t ut ty E ie zv u.size ie.bytes hut huu hud hie hzv (by omega) rfl hzs sv l.length vs H xv m.length us hsrc hm.oneCell (by unfold maxLen;omega) (by omega)
 obtain⟨ao,cap,hv⟩:=hA.Rz;subst hv;rw [hlm];refine⟨ao,cap,w',.inl ?_,hA⟩;simp only [execOp,resolve,invoke,builtin,Sem.run_bind,Sem.run_pure,Result.andThen_ok,List.map_toArray,List.map_cons,List.map_nil,hs,hx,hr]
theorem zbG (hT:T.fits Pr) {t ut E:Nat} {s x:Operand} {u:U} {l m:List u.den} {us vs:List Value} {z:Option (List P)} {n1 n2:Nat} {ue ee:TE}
  (hte:T t=some ⟨.slice E,n1,n2,z,some u⟩) (hue:T ut=some ue) (hni: ∀ k,ue.ty≠ .int k) (hno:ue.ty≠ .other) (hee:T E=some ee) (hby:ee.bytes≤1000000) {zz:List P} (hez:ee.zero=some zz)
  {sv xv:Value} (hs:a.eval s=sv) (hx:a.eval x=xv) {L:List Chunk} (H:At w (rowC E u.size sv l.length vs::L)) (hsrc:Src Pr w u.size xv m.length us) (hm:Elts S u m us) (hfew:FewB ee.bytes ((l.length:Int)+(m.length:Int))):
  ∃ ao cap w',Does Pr a w ⟨dst,.call { callee:=.builtin .append,args:= #[s,x],argTypes:= #[t,ut]},ty,pos,af,gd⟩ (.slice ao (l++m).length cap) w'∧(At w' (rowC E u.size (.slice ao (l++m).length cap) (l++m).length (vs++us)::rowC E u.size sv l.length vs::L)∨(At w' (rowC E u.size (.slice ao (l++m).length cap) (l++m).length (vs++us)::L)∧∃ g cap0,sv=.slice (some g) l.length cap0∧ao=some g∧cap0=cap)):=by
 obtain⟨dt,it,hut,-,htyt,-⟩:=TE.und (Tab.get hT hte);have:=yu htyt;subst this;obtain⟨du,iu,huu,-,htyu,-⟩:=TE.und (Tab.get hT hue);have hfe:=Tab.get hT hee;obtain⟨de,ie,hde,hie,_,hsz,hbytes⟩:=TE.und hfe;obtain⟨ie',zv,hie',hzv,hzf,hzl⟩:=TE.zero' hfe hez;rw [hie] at hie';cases hie';obtain⟨el,ee',hel,hee',hes,_⟩:=TE.elem (Tab.get hT hte) rfl;cases hel;rw [hee] at hee';cases hee'
 have hzs:zv.cells.size=u.size:=by
  have:=(tK (S:=S) hzf).length;rw [hzl,hes] at this
  simpa using this
 have hud: ∀ k,du≠ .int k:=by
  intro k e;subst e
  cases hty:ue.ty<;>rw [hty] at htyu<;>simp [Ty.fits] at htyu
  · exact hni _ hty
  · exact hno hty
 have hlm:(l++m).length=l.length+m.length:=jg
 have hb0:ee.bytes=ie.bytes:=by omega
 rw [hb0] at hfew hby;have hmax:=hfew.max
 have hmul:(l.length+m.length) * ie.bytes≤140737488355328:=by
  rcases hfew with⟨h1,h2⟩|h2
  · have:=Nat.mul_le_mul (show l.length+m.length≤140737488355328 by omega) h1;omega
  · have:=Nat.mul_le_mul (show l.length+m.length≤100000000 by omega) hby;omega
 obtain⟨v',w',hr,hA⟩:=zbZ t ut ty E ie zv u.size ie.bytes hut huu hud hie hzv (by omega) rfl hzs sv l.length vs H xv m.length us hsrc hm.oneCell (by unfold maxLen;omega) (by omega)
 obtain⟨ao,cap,hv⟩: ∃ ao cap,v'=.slice ao (l.length+m.length) cap:=by
  rcases hA with hA|⟨hA,_⟩<;>exact hA.Rz
 subst hv;rw [hlm]
 have hor:At w' (rowC E u.size (.slice ao (l.length+m.length) cap) (l.length+m.length) (vs++us)::rowC E u.size sv l.length vs::L)∨(At w' (rowC E u.size (.slice ao (l.length+m.length) cap) (l.length+m.length) (vs++us)::L)∧∃ g cap0,sv=.slice (some g) l.length cap0∧ao=some g∧cap0=cap):=by
  rcases hA with hA|⟨hA,g,c0,e1,e2⟩
  · exact .inl hA
  · exact .inr ⟨hA,g,c0,e1,by cases e2;exact⟨rfl,rfl⟩⟩
 refine⟨ao,cap,w',.inl ?_,hor⟩;simp only [execOp,resolve,invoke,builtin,Sem.run_bind,Sem.run_pure,Result.andThen_ok,List.map_toArray,List.map_cons,List.map_nil,hs,hx,hr]
theorem zbF (hT:T.fits Pr) (hH:Heap X st.hp S K w) (hE:Env S (K.map CO.base) st a) {t ut:Nat} {s x:Operand}:
  yX Pr X S K a w ⟨dst,.call { callee:=.builtin .append,args:= #[s,x],argTypes:= #[t,ut]},ty,pos,af,gd⟩ (zcM alg T st t ut s x):=by
 unfold zcM
 split
 · rename_i E n1 n2 z u ue cs cx hte hue hcs hcx
   split
   · exact lno
   · exact lno
   · rename_i hni hno
     split
     · rename_i ee m hee hm
       split
       · rename_i zz hby hez
         have hby:=Nat.le_of_ble_eq_true hby;have hms:=(hH.sit hT hE).one hcs;have hmx:=(hH.sit hT hE).one hcx;generalize hxv:a.eval x=xv at hmx;generalize hsv:a.eval s=sv at hms;obtain⟨us,hsrc,helt⟩:=ZA hT hH hE hm hmx
         have nilc:sv=.slice none 0 0→yX Pr X S K a w ⟨dst,.call { callee:=.builtin .append,args:= #[s,x],argTypes:= #[t,ut]},ty,pos,af,gd⟩ (fewL alg ee.bytes (alg.len m) (.ok (.v (.one (.row st.hp.length))) { st with hp:=st.hp++[.row u E m]})):=by
          intro hsn;subst hsn;refine lfew fun h0=> ?_;rw [yh] at h0;have H0:=hH.2.2.2.nilRow E u.size
          obtain⟨ao,cap,w',hd,hA⟩:=ZR (dst:=dst) (ty:=ty) (pos:=pos) (af:=af) (gd:=gd) (S:=S) (l:=([]:List u.den)) (vs:=[]) hT hte hue (fun k h=>hni k h) (fun h=>hno h) hee hby hez hsv hxv H0 hsrc helt (by simpa using h0)
          simp only [List.nil_append] at hd hA;intro Q hq
          have he:Ext (K.map CO.base) ((K++[CO.row E u.size ao m.length cap us]).map CO.base):=by rw [List.map_append];exact Ext.append _ _
          refine⟨_,w',S,K++[CO.row E u.size ao m.length cap us],.v (.one (.row st.hp.length)),{ st with hp:=st.hp++[.row u E m]},hd,Frz.le.refl S,he,⟨hH.1,fun k v h=>he k v (hH.2.1 k v h),?_,?_⟩,⟨hE.size,hE.defers.mono (Frz.le.refl S) he,fun t d h=>(hE.slots t d h).mono (Frz.le.refl S) he⟩,?_,hq⟩
          · exact(hH.2.2.1.mono (Frz.le.refl S) he).push (.row helt.1 helt.2)
          · exact At.more hA
          · show MC S _ (.row st.hp.length) _
            rw [hH.2.2.1.1];exact⟨yO _ _,_,_,_,rfl⟩
         split
         · exact nilc hms
         · rename_i l
           refine qf fun h0=>nilc ?_;rw [wU,yh] at h0
           cases hms with
           |nl _ _ h1 h2=>exact h1 (List.eq_nil_of_length_eq_zero (by omega))
         · rename_i k
           split
           · rename_i u' E' l' ho
             split
             · rename_i l hb hcast
               have hb:=jH hb;subst hb;obtain⟨e,he⟩:=Y2 hcast;subst e;subst he;refine lfew fun h0=> ?_;rw [vF,yh,yh] at h0;rw [yc] at ho;obtain⟨ao0,cap0,vs,hk,hlen,hxs,hrd⟩:=(hH.sit hT hE).row ho;have hv:=hms.1;rw [zS hk] at hv;cases hv;obtain⟨p,r,hp1,hp2,hfront⟩:=uD hk hH.2.2.2;obtain⟨ao,cap,w',hd,hA⟩:=ZR (dst:=dst) (ty:=ty) (pos:=pos) (af:=af) (gd:=gd) (S:=S) hT hte hue (fun k h=>hni k h) (fun h=>hno h) hee hby hez hsv hxv hfront hsrc helt h0;have hall:=Elts.append ⟨hlen,hxs⟩ helt;intro Q hq;have hbs:(K.set k (.gone (.slice ao0 l'.length cap0))).map CO.base=K.map CO.base:=yw hk rfl
               have he:Ext (K.map CO.base) ((K.set k (.gone (.slice ao0 l'.length cap0))++[CO.row E u'.size ao (l'++m).length cap (vs++us)]).map CO.base):=by rw [List.map_append,hbs];exact Ext.append _ _
               refine⟨_,w',S,K.set k (.gone (.slice ao0 l'.length cap0))++[CO.row E u'.size ao (l'++m).length cap (vs++us)],.v (.one (.row st.hp.length)),{ st with hp:=setN st.hp k .gone++[.row u' E (l'++m)]},hd,Frz.le.refl S,he,⟨hH.1,fun k v h=>he k v (hH.2.1 k v h),?_,?_⟩,⟨hE.size,hE.defers.mono (Frz.le.refl S) he,fun t d h=>(hE.slots t d h).mono (Frz.le.refl S) he⟩,?_,hq⟩
               · simp only
                 rw [yE];exact((hH.2.2.1.set k .gone).mono (Frz.le.refl S) he).push (.row hall.1 hall.2)
               · refine At.more ?_
                 rw [hp2,zA];have h5:=hA.swap
                 have h6:At w' (frzC S::((CO.zl p++CO.chunk (CO.gone (.slice ao0 l'.length cap0))::CO.zl r)++(CO.row E u'.size ao (l'++m).length cap (vs++us)).chunk::X.fr)):=by
                  refine(At.void ?_).perm (zK _ _ _ _ _).symm;refine hA.perm ?_;exact yQ _ _ _ _
                 refine h6.perm ?_;exact(yQ _ _ _ _).symm
               · show MC S _ (.row st.hp.length) _
                 have:st.hp.length=(K.set k (.gone (.slice ao0 l'.length cap0))).length:=by rw [hH.2.2.1.1];simp
                 rw [this];exact⟨yO _ _,_,_,_,rfl⟩
             · exact lno
           · exact lno
         · exact lno
       · exact lno
     · exact lno
 · exact lno
theorem XK {o:Oper}: ∀ {ns:List Prop} {r:LR},((∀ p ∈ ns,p)→yX Pr X S K a w o r)→yX Pr X S K a w o (zdI ns r)
 |[],_,h=>h fun p hp=>by cases hp
 |p::ps,_,h=>fun Q hq=>XK (ns:=ps) (fun hps=>h fun q hq'=>by cases hq' with|head=>exact hq.1|tail _ hm=>exact hps q hm) Q hq.2
theorem XW {z:List P} {u:U}: ∀ {ds:List (Option D)} {l:List u.den} {ns:List Prop},elems alg z u ds=some (l,ns)→l.length=ds.length
 |[],l,ns,h=>by cases h;rfl
 | d ::ds,l,ns,h=>by
   simp only [elems] at h
   split at h
   · split at h
     · split at h
       · rename_i x l' ns' h1 h2
         split at h<;>(cases h;simp [XW h2])
       · cases h
     · cases h
   · cases h
theorem zbr {bs:List Value} {z:List P} {u:U} {ev:Operand→Option D} {av:Operand→Value} (hev: ∀ x d,ev x=some d→MD S bs d (av x)): ∀ {parts:List (Nat × Operand)} {k:Nat} {l:List u.den} {ns:List Prop} {cells:List Value},
  inOrder k (parts.map (·.1))=true→elems alg z u (parts.map fun p=>ev p.2)=some (l,ns)→(∀ p ∈ ns,p)→k * u.size+l.length * u.size≤cells.length→
  ∃ us,Elts S u l us∧Instr.fill (fun i=>some (i * u.size,u.size)) cells.toArray (parts.map fun(i,x)=>(i,av x))=some (cells.take (k * u.size)++us++cells.drop (k * u.size+l.length * u.size)).toArray
 | [],k,l,ns,cells,_,he,_,_=>by
   cases he
   exact⟨[],Elts.nil S u,by simp [Instr.fill]⟩
 | (i, x) :: parts,k,l,ns,cells,ho,he,hn,hle=>by
   simp only [List.map_cons,inOrder] at ho
   split at ho
   · rename_i hik
     have hik:=jH hik;subst hik;simp only [List.map_cons,elems] at he
     split at he
     · rename_i cs hcs
       split at he
       · rename_i ps hps
         split at he
         · rename_i y l' ns' hy hrec
           obtain⟨vs,hvc,hvm⟩:=uU hcs (fun d hd=>hev x d hd);have hpm:=yT hps hvm
           have key:(∀ p,tC alg u ps=some p→p)→(∀ p ∈ ns',p)→l=y::l'→∃ us,Elts S u l us∧Instr.fill (fun i=>some (i * u.size,u.size)) cells.toArray (((k,x)::parts).map fun(i,x)=>(i,av x))=some (cells.take (k * u.size)++us++cells.drop (k * u.size+l.length * u.size)).toArray:=by
            intro hneed hns hl;subst hl;have hpm:=YX hy hneed hpm
            have hvl:vs.length=u.size:=by rw [hpm.length,yJ]
            have hle':k * u.size+(u.size+l'.length * u.size)≤cells.length:=by simpa [Nat.add_mul,Nat.add_comm,Nat.add_left_comm] using hle
            have hsz:(layV cells (k * u.size) vs).length=cells.length:=ZJ _ _ _
            obtain⟨us,h1,h2⟩:=zbr hev (k:=k+1) (cells:=layV cells (k * u.size) vs) ho hrec hns (by rw [hsz,Nat.succ_mul];omega)
            refine⟨vs++us,(Elts.one hpm).append h1,?_⟩;have hfold:=Qm vs cells.toArray (k * u.size) 0;simp only [Nat.add_zero] at hfold;simp only [List.map_cons,Instr.fill,hvc]
            rw [if_neg (by simp;omega)]
            have e0:(Array.foldl (fun cs x=>match x with|(c,j)=>cs.setIfInBounds (k * u.size+j) c) cells.toArray vs.toArray.zipIdx)=(layV cells (k * u.size) vs).toArray:=by
             rw [← hfold];simp
            rw [e0,h2]
            congr 2
            rw [zcg vs cells _ (by omega),hvl]
            have e1:(List.take (k * u.size) cells++vs).length=(k+1) * u.size:=by rw [jg,jq,hvl,Nat.succ_mul];omega
            rw [show(k+1) * u.size=(List.take (k * u.size) cells++vs).length from e1.symm,List.take_left];rw [jk (List.take (k * u.size) cells) vs us]
            congr 1
            rw [List.drop_append,List.drop_eq_nil_of_le (by omega),List.nil_append,List.drop_drop]
            congr 1
            simp only [je,Nat.succ_mul,jg,jq,hvl];omega
           split at he
           · rename_i p hp
             cases he
             exact key (fun p' hp'=>by rw [hp] at hp';cases hp';exact hn _ (List.mem_cons_self ..)) (fun p' hp'=>hn _ (List.mem_cons_of_mem _ hp')) rfl
           · rename_i hp
             cases he
             exact key (fun p' hp'=>by rw [hp] at hp';cases hp') hn rfl
         · cases he
       · cases he
     · cases he
   · cases ho
theorem Vs {P:Program} {w:World} {T E:TypeId} (ht:P.underlying T=some (.slice E)) {i:TypeInfo} (hi:P.info? E=some i):
  (Instr.buildSlice T 0 #[]).run P w=.ok (.slice (some ⟨w.heap.size,0,none⟩) 0 0) (w.alloc (.cells #[] E)):=by
 simp [Instr.buildSlice,run_underlying ht,sizeOf,typeInfo,hi,newRow,Instr.fill]
 congr 2
 apply Array.ext'
 simp
theorem X8 (hT:T.fits Pr) (hH:Heap X st.hp S K w) (hE:Env S (K.map CO.base) st a) {t n:Nat} {parts:Array (Nat × Operand)}:
  yX Pr X S K a w ⟨dst,.buildSlice t n parts,ty,pos,af,gd⟩ (ZO alg T st t n parts):=by
 intro Q hq;unfold ZO at hq;obtain⟨S1,K1,hle1,hbs1,hH1,hE1⟩:=yR hH hE (parts.toList.flatMap fun p=>rowsOf (st.eval p.2));simp only at hq;generalize y7 alg (parts.toList.flatMap fun p=>rowsOf (st.eval p.2)) st=st1 at hq hH1 hE1
 split at hq
 · rename_i e he
   split at hq
   · rename_i E u hety hu
     split at hq
     · exact hq.elim
     · rename_i ee hee
       split at hq
       · exact hq.elim
       · rename_i zz hez
         split at hq
         case h_2=>exact hq.elim
         rename_i l ns ho hn hn2 hel;have hn:=jH hn;have hn2:=Nat.le_of_ble_eq_true hn2;have hf:=Tab.get hT he;obtain⟨ds,it,hut,hit,htyt,-⟩:=TE.und hf;rw [hety] at htyt;have:=yu htyt;subst this;obtain⟨el,ee',hel',hee',hes,_⟩:=TE.elem hf hu;rw [hety] at hel';cases hel';rw [hee] at hee';cases hee';obtain⟨_,ie,_,hie,_,hsz,_⟩:=TE.und (Tab.get hT hee);obtain⟨ie',zv,hie',hzv,hzf,hzl⟩:=TE.zero' (Tab.get hT hee) hez;rw [hie] at hie';cases hie';have hll:=XW hel;simp only [List.length_map] at hll
         have hsound:yX Pr X S1 K1 a w ⟨dst,.buildSlice t n parts,ty,pos,af,gd⟩ (zdI ns (Yp st1 (.row u E l) (.row st1.hp.length))):=by
          refine XK fun hns=> ?_
          obtain⟨us,h1,h2⟩:=zbr (S:=S1) (bs:=K1.map CO.base) (av:=a.eval) (fun x d hd=>hH1.eval hT hE1 x d hd) (cells:=((Array.range (n * u.size)).map (zv.cells[· % zv.cells.size]!)).toList) ho hel hns (by simp;rw [hll,← hn];omega)
          have hu12:u.size≤12:=by cases u<;>decide
          have hrun:(Instr.buildSlice t n (parts.map fun(i,x)=>(i,a.eval x))).run Pr w=.ok (.slice (some ⟨w.heap.size,0,none⟩) n n) (w.alloc (.cells us.toArray E)):=by
           rcases Nat.eq_zero_or_pos n with h0|h0
           · have hp0:parts= #[]:=by apply Array.ext';exact List.eq_nil_of_length_eq_zero (by omega)
             have hu0:us=[]:=List.eq_nil_of_length_eq_zero (by rw [h1.1,hll,← hn,h0,Nat.zero_mul])
             rw [hp0,hu0,h0]
             simpa using Vs hut hie
           have hq:=run_buildSlice (P:=Pr) w t E n (parts.map fun(i,x)=>(i,a.eval x)) us.toArray ie zv hut hie hzv (by rw [hsz,hes];have:=Nat.mul_le_mul hn2 hu12;omega) (by rw [hsz,hes];have:=Nat.mul_pos h0 (Vf u);omega) (by
            rw [hsz,hes];simp only [Nat.zero_mul,List.take_zero,List.nil_append,Nat.zero_add] at h2
            rw [show us.toArray=(us++List.drop (l.length * u.size) (Array.map (fun x=>zv.cells[x % zv.cells.size]!) (Array.range (n * u.size))).toList).toArray by
             rw [List.drop_eq_nil_of_le (by simp;rw [hll,← hn];omega),List.append_nil]]
            rw [← h2,Array.toArray_toList]
            simp)
           exact hq
          · have hln:l.length=n:=by omega
            have hal:=h1.1;rw [hln] at hal;refine wZ (v:=.slice (some ⟨w.heap.size,0,none⟩) n n) (w':=w.alloc (.cells us.toArray E)) (co:=.row E u.size (some ⟨w.heap.size,0,none⟩) n n us) hH1 hE1 (.inl ?_) (fun L hL=> ?_) ?_ ?_
            · simp only [execOp,Sem.run_bind,hrun,Result.andThen_ok,Sem.run_pure]
            · have:=hL.Zp E u.size n us.toArray (0,0) (by simpa using hal) (by unfold maxLen;omega) (xA _)
              simpa [CO.chunk] using this
            · rw [← hln];exact .row h1.1 h1.2
            · rw [hH1.2.2.1.1]
              exact⟨yO _ _,_,_,_,rfl⟩
         obtain⟨v,w',S2,K2,d,st2,hd,hle2,hex,hH2,hE2,hm,hQ⟩:=hsound Q hq
         exact⟨v,w',S2,K2,d,st2,hd,hle1.trans hle2,by rw [← hbs1];exact hex,hH2,hE2,hm,hQ⟩
   · exact hq.elim
 · exact hq.elim
theorem zfd (hT:T.fits Pr) (hH:Heap X st.hp S K w) (hE:Env S (K.map CO.base) st a) {t:Nat} {x y:Operand}:yX Pr X S K a w ⟨dst,.makeSlice t x y,ty,pos,af,gd⟩ (zk2 alg T st t x y):=by
 unfold zk2
 split
 · rename_i e n m he hn hm
   split
   · rename_i E u hety hu
     split
     · rename_i ee hee
       split
       · rename_i z hez hs1 hby
         have hs1:=jH hs1;have hby:=Nat.le_of_ble_eq_true hby;obtain⟨k1,hx⟩:=(hH.sit hT hE).int hn;obtain⟨k2,hy⟩:=(hH.sit hT hE).int hm;have hf:=Tab.get hT he;obtain⟨ds,it,hut,hit,htyt,-⟩:=TE.und hf;rw [hety] at htyt;have:=yu htyt;subst this;obtain⟨el,ee',hel',hee',hes,_⟩:=TE.elem hf hu;rw [hety] at hel';cases hel';rw [hee] at hee';cases hee';obtain⟨_,ie,_,hie,_,hsz,hbytes⟩:=TE.und (Tab.get hT hee);obtain⟨ie',zv,hie',hzv,hzf,hzl⟩:=TE.zero' (Tab.get hT hee) hez;rw [hie] at hie';cases hie'
         have key: ∀ d:u.den,dec alg u z=some d→(∀ p,tC alg u z=some p→p)→yX Pr X S K a w ⟨dst,.makeSlice t x y,ty,pos,af,gd⟩ (.need (alg.same n m) (.need (alg.nng n) (.need (alg.few n 1000000) (Yp st (.row u E (alg.rep n d)) (.row st.hp.length))))):=by
          intro d hd hneed;refine qf fun hnm=>qf fun h0=>qf fun hfew=> ?_;rw [wU] at hnm;subst hnm;rw [ZT] at h0;rw [tJ] at hfew;have hms:=tK (S:=S) hzf;have hlz:=hms.length;rw [hzl,hs1] at hlz
          obtain⟨zc,hzc⟩: ∃ zc,zv.cells.toList=[zc]:=by
           cases hq:zv.cells.toList with
           |nil=>rw [hq] at hlz;cases hlz
           | cons q r=>cases r with
             |nil=>exact⟨q,rfl⟩
             |cons _ _=>rw [hq] at hlz;simp at hlz
          have hzc1:zv.cells= #[zc]:=by apply Array.ext';simpa using hzc
          have h1c:MPs S (enc alg u d) [zc]:=YX hd hneed (by rw [← hzc];exact hms)
          have hu1:u.size=1:=by omega
          obtain⟨nn,hnn⟩: ∃ nn:Nat,n=nn:=⟨n.toNat,by omega⟩
          subst hnn
          have hbd:(ie.bytes:Int) * nn≤1000 * 1000000:=Int.mul_le_mul (by omega) hfew (by omega) (by omega)
          have hr:=run_make (P:=Pr) w t E ie zv hut hie hzv k1 k2 nn nn (by omega) (Int.le_refl _) (by omega) (by omega)
          rw [show ie.size=1 by omega,Nat.mul_one,hzc1] at hr
          simp only [jI] at hr
          have hrep:(madeCells #[zc] nn)=(List.replicate nn zc).toArray:=by rw [← vU]
          rw [hrep] at hr
          have hel:Elts S u (List.replicate nn d) (List.replicate nn zc):=by
           refine⟨by simp [hu1],fun i x j p v h2 h3 h4=> ?_⟩
           have hx:=List.eq_of_mem_replicate (List.mem_of_getElem? h2);have hv:=List.eq_of_mem_replicate (List.mem_of_getElem? h4);subst hx;subst hv;obtain⟨v',h5,h6⟩:=h1c.get h3
           have:j=0:=by have:=(jh.1 h3).1;rw [yJ] at this;omega
           subst this;cases h5;exact h6
          refine wZ (v:=.slice (some ⟨w.heap.size,0,none⟩) nn nn) (w':=w.alloc (.cells (List.replicate nn zc).toArray E)) (co:=.row E u.size (some ⟨w.heap.size,0,none⟩) nn nn (List.replicate nn zc)) hH hE (.inl ?_) (fun L hL=> ?_) ?_ ?_
          · simp only [execOp,hx,hy,Sem.run_bind,hr,Result.andThen_ok,Sem.run_pure]
          · have:=hL.Zp E u.size nn (List.replicate nn zc).toArray (0,0) (by simp [hu1]) (by unfold maxLen;omega) (xA _)
            simpa [CO.chunk] using this
          · have:=hel
            rw [XC,jI]
            have hln:(List.replicate nn d).length=nn:=by simp
            have hR:=Rel.row (S:=S) (bs:=((K++[CO.row E u.size (some ⟨w.heap.size,0,none⟩) nn nn (List.replicate nn zc)]).map CO.base)) (E:=E) (ao:=some ⟨w.heap.size,0,none⟩) (cap:=nn) hel.1 hel.2;rw [hln] at hR;exact hR
          · rw [hH.2.2.1.1]
            exact⟨yO _ _,_,_,_,rfl⟩
         split
         · rename_i d h1 h2;exact key d h1 fun p hp=>by rw [h2] at hp;cases hp
         · rename_i d p h1 h2;exact qf fun h3=>key d h1 fun p' hp=>by rw [h2] at hp;cases hp;exact h3
         · exact lno
       · exact lno
     · exact lno
   · exact lno
 · exact lno
theorem zeV (hT:T.fits Pr) (hH:Heap X st.hp S K w) (hE:Env S (K.map CO.base) st a) {s d:Nat} {x:Operand}:yX Pr X S K a w ⟨dst,.convert s d x,ty,pos,af,gd⟩ (zkF alg T st s d x):=by
 unfold zkF
 split
 · rename_i e e1 e2 e3 e4 k hsd hs hc
   have:=jH hsd;subst this
   split
   · rename_i f1 f2 f3 f4 u E l he ho
     refine qf fun hnb=> ?_;intro Q hQ;have hm:=(hH.sit hT hE).one hc;obtain⟨ds,is,hus,-,htys,-⟩:=TE.und (Tab.get hT hs);obtain⟨de,ie,hue,-,htye,-⟩:=TE.und (Tab.get hT he);have:=yu htys;subst this;have:=fits_int htye;subst this;generalize hx:a.eval x=xv at hm;rw [yc] at ho;have hm2:=hm;obtain⟨hbk,ao0,n0,cap0,rfl⟩:=hm2;obtain⟨ao,cap,vs,hK,hlen,hxs,hrd⟩:=(hH.sit hT hE).row ho;have hb:=zS hK;rw [hb] at hbk;simp only [CO.base,jr,Value.slice.injEq] at hbk;obtain⟨rfl,rfl,rfl⟩:=hbk;obtain⟨p,r,hp1,hp2,H⟩:=uD hK hH.2.2.2
     have hpos:0<l.length:=by
      simp only [vP,yh] at hnb;omega
     obtain⟨g,cur,rfl,⟨fz,hg⟩,hat⟩:=At.mark hpos H;have hrun:=X0 Pr w s e g l.length cap cur E fz hus hue hg
     have hat2:At (w.freeze ⟨g,cur.size,none⟩ 1) (frzC S::(CO.zl K++X.fr)):=by
      rw [hp1,zA];exact hat.perm (zK _ _ _ _ _).symm
     refine⟨.slice (some ⟨g,0,none⟩) l.length cap,_,S,K,.v (.one (.row k)),st,.inl ?_,Frz.le.refl S,Ext.refl _,⟨hH.1,hH.2.1,hH.2.2.1,hat2⟩,hE,hm,hQ⟩;simp only [execOp,hx,Sem.run_bind,hrun,Result.andThen_ok,Sem.run_pure]
   · exact lno
 · exact lno
theorem ziO {α:Type} (A Z:List α) (a N:Nat) (h:a+Z.length≤N) (hN:N≤A.length):(A.take a++Z++A.drop (a+Z.length)).take N=(A.take N).take a++Z++(A.take N).drop (a+Z.length):=by
 have h1:(A.take a++Z).length=a+Z.length:=by rw [jg,jq];omega
 rw [List.take_append,jl (by omega),h1,List.take_take,Nat.min_eq_left (by omega),List.drop_take]
theorem Elts.take {S:Frz} {u:U} {l:List u.den} {vs:List Value} (h:Elts S u l vs) (n:Nat):Elts S u (l.take n) (vs.take (n * u.size)):=by
 refine⟨by rw [jq,jq,h.1,← Nat.mul_min_mul_right],fun i x j p v h1 h2 h3=> ?_⟩
 rw [jC] at h1 h3
 split at h1
 · split at h3
   · exact h.2 i x j p v h1 h2 h3
   · cases h3
 · cases h1
theorem Elts.drop {S:Frz} {u:U} {l:List u.den} {vs:List Value} (h:Elts S u l vs) (n:Nat):Elts S u (l.drop n) (vs.drop (n * u.size)):=by
 refine⟨by rw [jB,jB,h.1,Nat.sub_mul],fun i x j p v h1 h2 h3=> ?_⟩
 rw [jF] at h1 h3
 exact h.2 (n+i) x j p v h1 h2 (by rw [Nat.add_mul,Nat.add_assoc];exact h3)
theorem Zv {S:Frz} {u:U} {d:u.den} {zs:Array Value} (h:MPs S (enc alg u d) zs.toList) (n:Nat):Elts S u (List.replicate n d) (Builtin.zeroCells zs n).toList:=by
 have hl:=h.length;rw [yJ,Array.length_toList] at hl;have hp:=Vf u
 refine⟨by rw [Array.length_toList,size_zeroCells,List.length_replicate,hl],fun i x j p v h1 h2 h3=> ?_⟩
 have hx:=List.eq_of_mem_replicate (List.mem_of_getElem? h1);subst hx
 have hj:j<u.size:=by have:=(jh.1 h2).1;rw [yJ] at this;exact this
 obtain⟨v',h4,h5⟩:=h.get h2;have hi:=(jh.1 h1).1;rw [List.length_replicate] at hi
 have hlt:i * u.size+j<n * zs.size:=by
  rw [hl];have:=Nat.mul_le_mul_right u.size (show i+1≤n from hi);rw [Nat.succ_mul] at this;omega
 have hv:zs[(i * u.size+j) % zs.size]! =v':=by
  rw [hl,show(i * u.size+j) % u.size=j by rw [Nat.mul_comm,Nat.mul_add_mod,Nat.mod_eq_of_lt hj]]
  rw [Array.getElem?_toList] at h4
  simp [getElem!_def,h4]
 have h6:(Builtin.zeroCells zs n).toList[i * u.size+j]? =some zs[(i * u.size+j) % zs.size]! :=by
  unfold Builtin.zeroCells;rw [Array.getElem?_toList,Array.getElem?_map,Array.getElem?_range,if_pos hlt];rfl
 rw [h6,hv] at h3;cases h3;exact h5
theorem QO (hT:T.fits Pr) (hH:Heap X st.hp S K w) (hE:Env S (K.map CO.base) st a) {t ut:Nat} {s x:Operand}:
  yX Pr X S K a w ⟨dst,.call { callee:=.builtin .append,args:= #[s,x],argTypes:= #[t,ut]},ty,pos,af,gd⟩ (QS alg T st t ut s x):=by
 unfold QS
 split
 · rename_i E n1 n2 z u kk m1 m2 m3 m4 n hte hue hcs hcx
   split
   · rename_i ee hee
     split
     · rename_i zz hby hez
       have hby:=Nat.le_of_ble_eq_true hby
       have key: ∀ d:u.den,dec alg u zz=some d→(∀ p,tC alg u zz=some p→p)→yX Pr X S K a w ⟨dst,.call { callee:=.builtin .append,args:= #[s,x],argTypes:= #[t,ut]},ty,pos,af,gd⟩ (.need (alg.nng n) (.need (alg.few n 1000000) (Yp st (.row u E (alg.rep n d)) (.row st.hp.length)))):=by
        intro d hd hneed;refine qf fun h0=>qf fun hfew=> ?_;rw [ZT] at h0;rw [tJ] at hfew
        obtain⟨nn,hnn⟩: ∃ nn:Nat,n=nn:=⟨n.toNat,by omega⟩
        subst hnn;have hms:=(hH.sit hT hE).one hcs;have hms:a.eval s=.slice none 0 0:=hms;obtain⟨k1,hx⟩:=(hH.sit hT hE).int hcx;obtain⟨dt,it,hut,-,htyt,-⟩:=TE.und (Tab.get hT hte);have:=yu htyt;subst this;obtain⟨du,iu,huu,-,htyu,-⟩:=TE.und (Tab.get hT hue);have:=fits_int htyu;subst this;have hfe:=Tab.get hT hee;obtain⟨de,ie,hde,hie,_,hsz,hbytes⟩:=TE.und hfe;obtain⟨ie',zv,hie',hzv,hzf,hzl⟩:=TE.zero' hfe hez;rw [hie] at hie';cases hie';obtain⟨el,ee',hel,hee',hes,_⟩:=TE.elem (Tab.get hT hte) rfl;cases hel;rw [hee] at hee';cases hee';have hms0:=tK (S:=S) hzf
        have hzs:zv.cells.size=ie.size:=by
         have:=hms0.length;rw [hzl,hes] at this;rw [hsz,hes]
         simpa using this
        have hms0:=YX hd hneed hms0;have helt:=Zv hms0 nn
        have hmul:nn * ie.bytes≤1000000 * 1000:=Nat.mul_le_mul (by omega) (by omega)
        obtain⟨v',w',hr,hA⟩:=zbY t ut ty E ie zv hut huu hie hzv hzs hH.2.2.2 nn k1 (by unfold maxLen;omega) (by omega)
        rw [show ie.size=u.size by omega] at hA
        obtain⟨ao,cap,hv⟩:=hA.Rz;subst hv;intro Q hq
        have hlen:(List.replicate nn d).length=nn:=by simp
        have hal:alg.rep (nn:Int) d=List.replicate nn d:=by rw [XC,jI]
        have he:Ext (K.map CO.base) ((K++[CO.row E u.size ao nn cap (Builtin.zeroCells zv.cells nn).toList]).map CO.base):=by rw [List.map_append];exact Ext.append _ _
        refine⟨.slice ao nn cap,w',S,K++[CO.row E u.size ao nn cap (Builtin.zeroCells zv.cells nn).toList],.v (.one (.row st.hp.length)),{ st with hp:=st.hp++[.row u E (alg.rep (nn:Int) d)]},.inl ?_,Frz.le.refl S,he,⟨hH.1,fun k v h=>he k v (hH.2.1 k v h),?_,?_⟩,⟨hE.size,hE.defers.mono (Frz.le.refl S) he,fun t d h=>(hE.slots t d h).mono (Frz.le.refl S) he⟩,?_,hq⟩
        · simp only [execOp,resolve,invoke,builtin,Sem.run_bind,Sem.run_pure,Result.andThen_ok,List.map_toArray,List.map_cons,List.map_nil,hms,hx,hr]
        · refine(hH.2.2.1.mono (Frz.le.refl S) he).push ?_
          rw [hal];have hR:=Rel.row (S:=S) (bs:=((K++[CO.row E u.size ao nn cap (Builtin.zeroCells zv.cells nn).toList]).map CO.base)) (E:=E) (ao:=ao) (cap:=cap) helt.1 helt.2;rw [hlen] at hR;exact hR
        · exact At.more hA
        · show MC S _ (.row st.hp.length) _
          rw [hH.2.2.1.1];exact⟨yO _ _,_,_,_,rfl⟩
       split
       · rename_i d h1 h2;exact key d h1 fun p hp=>by rw [h2] at hp;cases hp
       · rename_i d p h1 h2;exact qf fun h3=>key d h1 fun p' hp=>by rw [h2] at hp;cases hp;exact h3
       · exact lno
     · exact lno
   · exact lno
 · exact lno
theorem zcy (hT:T.fits Pr) (hH:Heap X st.hp S K w) (hE:Env S (K.map CO.base) st a) {t:Nat} {x:Operand}:yX Pr X S K a w ⟨dst,.call ⟨.builtin .clear,#[x],#[t]⟩,ty,pos,af,gd⟩ (zif alg T st t x):=by
 unfold zif
 split
 · rename_i E b1 b2 b3 b4 u k lo hi he hc
   split
   · rename_i ee u' E' l hee ho
     split
     · rename_i z hez hs1 hs2
       split
       · rename_i d hd hdn
         refine qf fun hcut=> ?_;have hs1:=jH hs1;have hs2:=jH hs2;rw [Xb,yh] at hcut;obtain⟨dsc,it,hut,hit,htyt,-⟩:=TE.und (Tab.get hT he);have:=yu htyt;subst this;obtain⟨ie,zv,hie,hzv,hzf,hzl⟩:=TE.zero' (Tab.get hT hee) hez;have hsit:=hH.sit hT hE;have hm:=hsit.one hc;generalize hx:a.eval x=xv at hm;rw [yc] at ho;obtain⟨ao,cap,vs,hk,hlen,hxs,hrd⟩:=hsit.row ho;obtain⟨ao1,n1,cap1,hb,hlo0,hhi0,hsub⟩:=hm;rw [zS hk] at hb;simp only [CO.base,jr,Value.slice.injEq] at hb;obtain⟨rfl,rfl,rfl⟩:=hb;obtain⟨ao',cap',rfl,hle,hhl,_,_,_,hao,_⟩:=hsub
         obtain⟨lb,hlb⟩: ∃ lb:Nat,lo=lb:=⟨lo.toNat,by omega⟩
         obtain⟨rb,hrb⟩: ∃ rb:Nat,hi=rb:=⟨hi.toNat,by omega⟩
         subst hlb;subst hrb;simp only [jI] at hle hhl hao hx;have hms:=tK (S:=S) hzf
         have hms:=YX hd (fun p hp=>by rw [hdn] at hp;cases hp) hms
         have hZ:=Zv hms (rb - lb);have hE0:Elts S u' l vs:=⟨hlen,hxs⟩;have hnew:Elts S u' (l.take lb++(List.replicate (rb - lb) d++l.drop rb)) (vs.take (lb * u'.size)++((Builtin.zeroCells zv.cells (rb - lb)).toList++vs.drop (rb * u'.size))):=(hE0.take lb).append (hZ.append (hE0.drop rb))
         have hll:(l.take lb++(List.replicate (rb - lb) d++l.drop rb)).length=l.length:=by
          simp only [jg,jq,List.length_replicate,jB];omega
         have e0:alg.app (alg.cut l 0 (lb:Int)) (alg.app (alg.rep (alg.sub (rb:Int) (lb:Int)) d) (alg.cut l (rb:Int) (alg.len l)))=l.take lb++(List.replicate (rb - lb) d++l.drop rb):=by
          rw [XE,XE,vS,vS,XC,rP,yh];simp only [jI,Int.toNat_zero,List.drop_zero,Nat.sub_zero]
          rw [show((rb:Int) - (lb:Int)).toNat=rb - lb by omega,jl (l:=l.drop rb) (by rw [jB];exact jK _)]
         rw [e0];intro Q hq
         rcases Nat.lt_or_ge lb rb with hlt|hge
         · rw [hao hlt] at hx
           have hx:=hx;obtain⟨L,hat⟩:=hsit.chunk hk;obtain⟨A,hA⟩:=hat.head
           obtain⟨hF,hA2,⟨hv,hn0⟩|⟨g,cap2,cur,fz,hv,hg,hfree,hnc,hcm,hcs,ht⟩⟩:=hA
           · omega
           cases hv;have hmul:=Nat.mul_le_mul_right u'.size hhl;have hmul2:=Nat.mul_le_mul_right u'.size hnc;have hmul3:=Nat.mul_le_mul_right u'.size (Nat.le_of_lt hlt);have hZl:=hZ.1;rw [List.length_replicate,Nat.sub_mul] at hZl
           have hst:=yA Pr g (lb * u'.size) E' fz (Builtin.zeroCells zv.cells (rb - lb)).toList 0 cur w hg hfree (by rw [hZl];omega) hZ.oneCell
           have hcl:(cur.toList.take (lb * u'.size)++(Builtin.zeroCells zv.cells (rb - lb)).toList++cur.toList.drop (lb * u'.size+(Builtin.zeroCells zv.cells (rb - lb)).toList.length)).length=cur.size:=by
            simp only [jg,jq,jB,Array.length_toList] at hZl ⊢;omega
           have hvs:(cur.toList.take (lb * u'.size)++(Builtin.zeroCells zv.cells (rb - lb)).toList++cur.toList.drop (lb * u'.size+(Builtin.zeroCells zv.cells (rb - lb)).toList.length)).take (l.length * u'.size)=vs.take (lb * u'.size)++((Builtin.zeroCells zv.cells (rb - lb)).toList++vs.drop (rb * u'.size)):=by
            rw [ziO cur.toList (Builtin.zeroCells zv.cells (rb - lb)).toList (lb * u'.size) (l.length * u'.size) (by rw [hZl];omega) (by rw [Array.length_toList];exact Nat.le_trans hmul2 hcs),ht,jk,hZl,show lb * u'.size+(rb * u'.size - lb * u'.size)=rb * u'.size by omega]
           rw [Nat.add_zero] at hst
           have hbs:(K.set k (.row E' u'.size (some ⟨g,0,none⟩) (l.take lb++(List.replicate (rb - lb) d++l.drop rb)).length cap (vs.take (lb * u'.size)++((Builtin.zeroCells zv.cells (rb - lb)).toList++vs.drop (rb * u'.size))))).map CO.base=K.map CO.base:=yw hk (by simp only [CO.base,hll])
           refine⟨.tuple #[],w.setRow g (cur.toList.take (lb * u'.size)++(Builtin.zeroCells zv.cells (rb - lb)).toList++cur.toList.drop (lb * u'.size+(Builtin.zeroCells zv.cells (rb - lb)).toList.length)).toArray,S,K.set k (.row E' u'.size (some ⟨g,0,none⟩) (l.take lb++(List.replicate (rb - lb) d++l.drop rb)).length cap (vs.take (lb * u'.size)++((Builtin.zeroCells zv.cells (rb - lb)).toList++vs.drop (rb * u'.size)))),.tup [],_,.inl ?_,Frz.le.refl S,by rw [hbs];exact Ext.refl _,⟨hH.1,by rw [hbs];exact hH.2.1,?_,?_⟩,?_,⟨[],trivial,rfl⟩,hq⟩
           · obtain⟨m,hm⟩: ∃ m,rb - lb=m+1:=⟨rb - lb - 1,by omega⟩
             rw [hs1,hm] at hx;rw [hm] at hst ⊢;simp only [Option.map_some,Addr.add_lit,Nat.zero_add] at hx
             simp [execOp,resolve,invoke,builtin,hx,Builtin.clear_,run_underlying hut,zeroValue,typeInfo,hie,hzv,hst]
           · rw [hbs]
             simp only;rw [yE];exact hH.2.2.1.set k (.row hnew.1 hnew.2)
           · refine At.turn hH.2.2.2 hk _ fun L hL=> ?_
             refine hL.step fun A hA=>⟨A,⟨?_,hnew.1,.inr ⟨g,cap,_,fz,rfl,setRow_heap w g cur _ E' fz hg,?_,by rw [hll];exact hnc,hcm,?_,?_⟩⟩,fun _ h=>.inl h,(yU w g _).mono fun k hk e=>hk.2 ((hA.1 k).2 (by simp [Value.ownBlock,e]))⟩
             · intro k;rw [hA.1 k];simp [Value.ownBlock]
             · simpa only [List.size_toArray,hcl] using hfree
             · simpa only [List.size_toArray,hcl] using hcs
             · rw [hll];exact hvs
           · rw [hbs];exact⟨hE.size,hE.defers,hE.slots⟩
         · have hrl:rb=lb:=by omega
           subst hrl
           have el:l.take rb++(List.replicate (rb - rb) d++l.drop rb)=l:=by simp
           rw [el] at hq
           have eh:setN st.hp k (.row u' E' l)=st.hp:=by
            rw [yE];obtain⟨hlt,he1⟩:=jh.1 ho;rw [← he1];exact List.set_getElem_self hlt
           rw [eh] at hq;refine⟨.tuple #[],w,S,K,.tup [],st,.inl ?_,Frz.le.refl S,Ext.refl _,hH,hE,⟨[],trivial,rfl⟩,hq⟩;rw [Nat.sub_self] at hx
           cases ao'<;>simp [execOp,resolve,invoke,builtin,hx,Builtin.clear_,run_underlying hut]
       · exact lno
     · exact lno
   · exact lno
 · exact lno
theorem zaB (hT:T.fits Pr) (hH:Heap X st.hp S K w) (hE:Env S (K.map CO.base) st a) (o:Oper):yX Pr X S K a w o (lop alg T st o.op):=by
 obtain⟨dst,op,ty,pos,af,gd⟩:=o
 cases op with
 |store t x v=>exact zbT hT hH hE
 |alloc t=>exact zcN hT hH hE
 |box t x=>exact zim hT hH hE
 |buildSlice t n parts=>exact X8 hT hH hE
 |makeSlice t x y=>exact zfd hT hH hE
 | convert s d x=>
   simp only [lop]
   split
   · exact zcB hT hH hE
   · exact zeV hT hH hE
 | call c=>
   obtain⟨callee,args,tys⟩:=c;simp only [lop]
   split
   · rename_i s x t u h1 h2
     have h1:args= #[s,x]:=by apply Array.ext';simpa using h1
     have h2:tys= #[t,u]:=by apply Array.ext';simpa using h2
     subst h1;subst h2
     split
     · exact QO hT hH hE
     · exact zbF hT hH hE
   · rename_i x t h1 h2
     have h1:args= #[x]:=by apply Array.ext';simpa using h1
     have h2:tys= #[t]:=by apply Array.ext';simpa using h2
     subst h1;subst h2;exact zcy hT hH hE
   · exact lno
 |_=>exact lno
end
end Go.Ab
namespace Go.Ab
open Go Go.Sep
variable [Facts]
def XA (f:Nat→Option Nat):List Cap→Option (List Cap)
 |[]=>some []
 |.p x::cs=>match XA f cs with|some r=>some (.p x::r)|none=>none
 |.ptr k off::cs=>match f k,XA f cs with|some j,some r=>some (.ptr j off::r)|_,_=>none
def C.ren (f:Nat→Option Nat):C→C
 |.fn g caps=>match XA f caps with|some cs=>.fn g cs|none=>.any
 |.ptr k off=>match f k with|some j=>.ptr j off|none=>.any
 |.ept u k i off=>match f k with|some j=>.ept u j i off|none=>.any
 |.row k=>match f k with|some j=>.row j|none=>.any
 |.sub u k lo hi=>match f k with|some j=>.sub u j lo hi|none=>.any
 |c=>c
def V0.ren (f:Nat→Option Nat):V0→V0
 |.one c=>.one (c.ren f)
 |.agg cs=>.agg (cs.map (C.ren f))
def D.ren (f:Nat→Option Nat):D→D
 |.v x=>.v (x.ren f)
 |.tup l=>.tup (l.map (V0.ren f))
 |.bad=>.bad
def HO.ren (f:Nat→Option Nat):HO→HO
 |.obj T cs=>.obj T (cs.map (C.ren f))
 |.rws u E Eb l (some (i,m))=>(match f m with|some j=>.rws u E Eb l (some (i,j))|none=>.gone)
 |o=>o
theorem rJ {S:Frz} {bs bs':List Value} {f:Nat→Option Nat} (hf: ∀ (k j:Nat) (v:Value),f k=some j→bs[k]? =some v→bs'[j]? =some v): ∀ {cs rs:List Cap} {vs:List Value},XA f cs=some rs→qg S bs cs vs→qg S bs' rs vs
 |[],rs,vs,h,hm=>by cases h;cases vs with|nil=>trivial|cons _ _=>exact hm.elim
 |.p x::cs,rs,[],h,hm=>hm.elim
 |.ptr k off::cs,rs,[],h,hm=>hm.elim
 | .p x::cs,rs,v::vs,h,hm=>by
   simp only [XA] at h
   split at h
   · rename_i r hr;cases h;exact⟨hm.1,rJ hf hr hm.2⟩
   · cases h
 | .ptr k off::cs,rs,v::vs,h,hm=>by
   simp only [XA] at h
   split at h
   · rename_i j r hj hr
     cases h;obtain⟨b,h1,h2⟩:=hm.1;exact⟨⟨b,hf _ _ _ hj h1,h2⟩,rJ hf hr hm.2⟩
   · cases h
theorem C.yg {S:Frz} {bs bs':List Value} {f:Nat→Option Nat} (hf: ∀ (k j:Nat) (v:Value),f k=some j→bs[k]? =some v→bs'[j]? =some v) (c:C) (v:Value) (h:MC S bs c v):MC S bs' (c.ren f) v:=by
 have h1:=h.one
 cases c with
 | ptr k off=>
   simp only [C.ren]
   split
   · rename_i j hj;obtain⟨b,h2,h3⟩:=h;exact⟨b,hf _ _ _ hj h2,h3⟩
   · exact h1
 | ept u k i off=>
   simp only [C.ren]
   split
   · rename_i j hj;obtain⟨ao,n,cap,h2,h3⟩:=h;exact⟨ao,n,cap,hf _ _ _ hj h2,h3⟩
   · exact h1
 | row k=>
   simp only [C.ren]
   split
   · rename_i j hj;exact⟨hf _ _ _ hj h.1,h.2⟩
   · exact h1
 | sub u k lo hi=>
   simp only [C.ren]
   split
   · rename_i j hj;obtain⟨ao,n,cap,h2,h3⟩:=h;exact⟨ao,n,cap,hf _ _ _ hj h2,h3⟩
   · exact h1
 |p x=>exact h
 |fpt u l i off=>exact h
 |nilS=>exact h
 | fn g caps=>
   simp only [C.ren]
   split
   · rename_i cs hcs;obtain⟨vs,h2,h3⟩:=h;exact⟨vs,rJ hf hcs h2,h3⟩
   · exact h1
 | ifc T agg cs=>
   cases agg with
   | false=>cases cs with
     |nil=>exact h.elim
     | cons p ps=>cases ps with
       |nil=>exact h
       |cons q qs=>exact h.elim
   |true=>exact h
 |any=>exact h
theorem V0.yg {S:Frz} {bs bs':List Value} {f:Nat→Option Nat} (hf: ∀ (k j:Nat) (v:Value),f k=some j→bs[k]? =some v→bs'[j]? =some v) (c:V0) (v:Value) (h:MV S bs c v):MV S bs' (c.ren f) v:=by
 cases c with
 |one c=>exact C.yg hf c v h
 |agg cs=>obtain⟨vs,h1,h2⟩:=h;exact⟨vs,h1.map (C.yg hf),h2⟩
theorem D.yg {S:Frz} {bs bs':List Value} {f:Nat→Option Nat} (hf: ∀ (k j:Nat) (v:Value),f k=some j→bs[k]? =some v→bs'[j]? =some v) (d:D) (v:Value) (h:MD S bs d v):MD S bs' (d.ren f) v:=by
 cases d with
 |v x=>exact V0.yg hf x v h
 |tup vs=>obtain⟨us,h1,h2⟩:=h;exact⟨us,h1.map (V0.yg hf),h2⟩
 |bad=>trivial
theorem HO.yg {S:Frz} {bs bs':List Value} {f:Nat→Option Nat} (hf: ∀ (k j:Nat) (v:Value),f k=some j→bs[k]? =some v→bs'[j]? =some v) {o:HO} {c:CO} (h:Rel S bs o c):Rel S bs' (o.ren f) c:=by
 cases h with
 |obj h=>exact .obj (h.map (C.yg hf))
 |row a b=>exact .row a b
 |pack a b=>exact .pack a b
 |abs a b=>exact .abs a b
 |gone=>exact .gone
 | @rws _ _ _ _ _ _ h _ _ _ _ a b c d e=>
   cases h with
   |none=>exact .rws a b c d e
   | some q=>
     obtain⟨i,m⟩:=q;simp only [HO.ren]
     split
     · rename_i j hj
       refine .rws a b c d fun i' x v c' h1 h2 h3=> ?_;have:=e i' x v c' h1 h2 h3;unfold rX at this ⊢;simp only at this ⊢
       split at this
       · rename_i hi;rw [if_pos hi];exact⟨hf _ _ _ hj this.1,this.2⟩
       · rename_i hi;rw [if_neg hi];exact this
     · exact .gone
def zgK (k n:Nat):Nat→Option Nat
 |0=>some k
 |i+1=>some (n+i)
def St.ze5 (st:St) (k:Nat):St:=
 match nth st.hp k with
 | some o=>(match partsOf o with
   |h0::hs=> { st with hp:=setN st.hp k (h0.ren (zgK k st.hp.length))++hs.map (HO.ren (zgK k st.hp.length))}
   |[]=>st)
 |none=>st
theorem tZ {X:Ctx} {st:St} {a:Act} {w:World} {S:Frz} {K:List CO} (hH:Heap X st.hp S K w) (hE:Env S (K.map CO.base) st a) (k:Nat):
  ∃ K',Ext (K.map CO.base) (K'.map CO.base)∧Heap X (st.ze5 k).hp S K' w∧Env S (K'.map CO.base) (st.ze5 k) a:=by
 unfold St.ze5
 split
 · rename_i o ho
   rw [yc] at ho;obtain⟨c,hc,hr⟩:=hH.2.2.1.get ho
   split
   case h_2=>exact⟨K,Ext.refl _,hH,hE⟩
   rename_i h0 hs hpo;obtain⟨L,rfl,hl,hrel⟩:=hr.parts hpo
   · cases L with
     |nil=>cases hl
     | cons c0 cs=>
       have hbs:(K.set k c0).map CO.base=K.map CO.base:=yw hc rfl
       have he:Ext (K.map CO.base) ((K.set k c0++cs).map CO.base):=by rw [List.map_append,hbs];exact Ext.append _ _
       have hlen:st.hp.length=K.length:=hH.2.2.1.1
       have hf: ∀ (i j:Nat) (v:Value),zgK k st.hp.length i=some j→((c0::cs).map CO.base)[i]? =some v→((K.set k c0++cs).map CO.base)[j]? =some v:=by
        intro i j v h1 h2
        cases i with
        | zero=>
          simp only [zgK,jr] at h1;subst h1;simp only [List.map_cons,List.getElem?_cons_zero,jr] at h2;subst h2;have hb:=zS hc;exact he _ _ hb
        | succ i=>
          simp only [zgK,jr] at h1;subst h1;simp only [List.map_cons,List.getElem?_cons_succ] at h2
          rw [List.map_append,jy (by simp [hlen])]
          simpa [hlen] using h2
       refine⟨K.set k c0++cs,he,⟨hH.1,fun i v h=>he i v (hH.2.1 i v h),?_,?_⟩,⟨hE.size,hE.defers.mono (Frz.le.refl S) he,fun t d h=>(hE.slots t d h).mono (Frz.le.refl S) he⟩⟩
       · refine⟨by simp [yE,hlen];simpa using hl,fun i o c' h1 h2=> ?_⟩
         simp only [yE] at h1
         rcases Nat.lt_or_ge i K.length with hi|hi
         · rw [jw (by simp [hlen];exact hi)] at h1
           rw [jw (by simp;exact hi)] at h2
           have h0r:=HO.yg hf (hrel 0 h0 c0 rfl rfl);exact((hH.2.2.1.mono (Frz.le.refl S) he).set k h0r).2 i o c' h1 h2
         · rw [jy (by simp [hlen];exact hi)] at h1
           rw [jy (by simp;exact hi)] at h2
           simp only [List.length_set,hlen] at h1 h2;rw [List.getElem?_map,Option.map_eq_some_iff] at h1;obtain⟨o',h3,rfl⟩:=h1
           have:=HO.yg hf (hrel (i - K.length+1) o' c' (by simpa using h3) (by simpa using h2))
           rw [hlen] at this;exact this
       · obtain⟨p,r,hp1,hp2,hp3⟩:=yM hc
         have H:=hH.2.2.2;rw [hp1,zA] at H;have H2:=H.perm (zK _ _ _ _ _);have H3:At w ((c0.chunk::CO.zl cs)++(frzC S::((CO.zl p++CO.zl r)++X.fr))):=At.many.1 H2;rw [hp3,zA,zA];refine H3.perm ?_;simp only [List.cons_append,CO.zl,jk];refine List.Perm.trans (l₂:=c0.chunk::frzC S::(CO.zl p++(CO.zl r++(CO.zl cs++X.fr)))) (List.Perm.cons _ ?_) ?_
         · refine List.perm_middle.trans (List.Perm.cons _ ?_)
           have:(CO.zl cs++((CO.zl p++CO.zl r)++X.fr)).Perm ((CO.zl p++CO.zl r)++(CO.zl cs++X.fr)):=by
            refine(List.Perm.append_left _ (List.Perm.refl _)).trans ?_;have h9:(CO.zl cs++(CO.zl p++CO.zl r)).Perm ((CO.zl p++CO.zl r)++CO.zl cs):=List.perm_append_comm;have h10:=h9.append_right X.fr;rw [jk (CO.zl cs),jk (CO.zl p++CO.zl r)] at h10;exact h10
           simpa [jk] using this
         · refine(List.Perm.swap _ _ _).trans (List.Perm.cons _ ?_)
           exact List.perm_middle.symm
 · exact⟨K,Ext.refl _,hH,hE⟩
def idx (q:Nat):List Nat→Nat→Option Nat
 |[],_=>none
 |x::l,n=>match Nat.beq x q with|true=>some n|false=>idx q l (n+1)
def uh:List Nat→List HO→Option (List HO × List HO)
 |[],hp=>some ([],hp)
 | q::qs,hp=>match nth hp q with
   |none=>none
   |some o=>(match uh qs (setN hp q .gone) with|some (os,hp')=>some (o::os,hp')|none=>none)
def Uw:List Cap→List Nat
 |[]=>[]
 |.ptr k _::cs=>k::Uw cs
 |.p _::cs=>Uw cs
def refs:List C→List Nat
 |[]=>[]
 |.fn _ caps::cs=>Uw caps++refs cs
 |.ptr k _::cs=>k::refs cs
 |.row k::cs=>k::refs cs
 |_::cs=>refs cs
def memN (k:Nat):List Nat→Bool
 |[]=>false
 |x::l=>match Nat.beq x k with|true=>true|false=>memN k l
def gather (hp:List HO):Nat→List Nat→List Nat→List Nat
 |0,_,seen=>seen
 |_+1,[],seen=>seen
 | f +1,k::work,seen=>match memN k seen with
   |true=>gather hp f work seen
   | false=>match nth hp k with
     |some (.obj _ cs)=>gather hp f (refs cs++work) (seen++[k])
     |some .gone=>gather hp f work seen
     |none=>gather hp f work seen
     |some _=>gather hp f work (seen++[k])
def St.shut0 (st:St) (k:Nat):St:=
 match nth st.hp k with
 | some (.obj _ _)=>
   let qs:=gather st.hp 60 [k] []
   match uh qs st.hp with
   |some (os,hp')=> { st with hp:=setN hp' k (zat (os.map (HO.ren fun q=>idx q qs 0)))}
   |none=>st
 |_=>st
theorem wL {S:Frz} {bs:List Value} {w:World}: ∀ {qs:List Nat} {hp os hp':List HO} {K:List CO} {fr:List Chunk},uh qs hp=some (os,hp')→K.map CO.base=bs→HR S bs hp K→At w (frzC S::(CO.zl K++fr))→
  ∃ Cs K',K'.map CO.base=bs∧HR S bs hp' K'∧At w (frzC S::(CO.zl K'++(CO.zl Cs++fr)))∧Cs.length=os.length∧os.length=qs.length∧(∀ (i q:Nat) (c:CO),qs[i]? =some q→Cs[i]? =some c→bs[q]? =some c.base)∧
    (∀ (i:Nat) (o:HO) (c:CO),os[i]? =some o→Cs[i]? =some c→Rel S bs o c)
 | [],hp,os,hp',K,fr,h,hb,hr,hat=>by
   cases h
   exact⟨[],K,hb,hr,hat,rfl,rfl,fun i q c h=>by simp at h,fun i o c h=>by simp at h⟩
 | q ::qs,hp,os,hp',K,fr,h,hb,hr,hat=>by
   simp only [uh] at h
   split at h
   · cases h
   · rename_i o hno
     split at h
     · rename_i os' hp'' hrec
       cases h;rw [yc] at hno;obtain⟨c,hc,hrel⟩:=hr.get hno;obtain⟨p,r,hp1,hp2,hp3⟩:=yM hc
       have hbs:(K.set q (.gone c.base)).map CO.base=bs:=by rw [← hb];exact yw hc rfl
       have hat2:At w (frzC S::(CO.zl (K.set q (.gone c.base))++(c.chunk::fr))):=by
        rw [hp1,zA] at hat;have H2:=hat.perm (zK _ _ _ _ _);rw [hp3,zA];have H3:At w (frzC S::((CO.zl p++CO.zl r)++(c.chunk::fr))):=H2.perm (yQ _ _ _ _);exact(At.void H3).perm (zK _ _ _ _ _).symm
       have hr2:HR S bs (setN hp q .gone) (K.set q (.gone c.base)):=by rw [yE];exact hr.set q .gone
       obtain⟨Cs,K',h1,h2,h3,h4,h5,h6,h7⟩:=wL hrec hbs hr2 hat2
       refine⟨c::Cs,K',h1,h2,?_,by simp [h4],by simp [h5],fun i q' c' e1 e2=> ?_,fun i o' c' e1 e2=> ?_⟩
       · refine h3.perm (List.Perm.cons _ (List.Perm.append_left _ ?_))
         simp only [CO.zl,List.cons_append];exact List.perm_middle
       · cases i with
         |zero=>simp at e1 e2;subst e1;subst e2;rw [← hb];exact zS hc
         |succ i=>exact h6 i q' c' (by simpa using e1) (by simpa using e2)
       · cases i with
         |zero=>simp at e1 e2;subst e1;subst e2;exact hrel
         |succ i=>exact h7 i o' c' (by simpa using e1) (by simpa using e2)
     · cases h
theorem Qi {q:Nat}: ∀ {l:List Nat} {n j:Nat},idx q l n=some j→n≤j∧l[j - n]? =some q
 |[],n,j,h=>by cases h
 | x ::l,n,j,h=>by
   simp only [idx] at h
   split at h
   · rename_i hx
     cases h
     exact⟨jK _,by rw [Nat.sub_self];simp [jH hx]⟩
   · obtain⟨h1,h2⟩:=Qi h
     refine⟨by omega,?_⟩
     rw [show j - n=(j - (n+1))+1 by omega]
     simpa using h2
theorem vk (hp:List HO): ∀ (f:Nat) (work seen:List Nat) (q:Nat) (r:List Nat),seen=q::r→∃ r',gather hp f work seen=q::r'
 |0,_,seen,q,r,h=>⟨r,h⟩
 |f+1,[],seen,q,r,h=>⟨r,h⟩
 | f +1,k::work,seen,q,r,h=>by
   simp only [gather]
   split
   · exact vk hp f work seen q r h
   · split
     · exact vk hp f _ _ q (r++[k]) (by rw [h];rfl)
     · exact vk hp f work seen q r h
     · exact vk hp f work seen q r h
     · exact vk hp f _ _ q (r++[k]) (by rw [h];rfl)
theorem Vm {X:Ctx} {st:St} {a:Act} {w:World} {S:Frz} {K:List CO} (hH:Heap X st.hp S K w) (hE:Env S (K.map CO.base) st a) (k:Nat):
  ∃ K',K'.map CO.base=K.map CO.base∧Heap X (st.shut0 k).hp S K' w∧Env S (K'.map CO.base) (st.shut0 k) a:=by
 unfold St.shut0
 split
 · rename_i T0 cs0 ho
   simp only
   split
   · rename_i os hp' hto
     obtain⟨Cs,K',h1,h2,h3,h4,h5,h6,h7⟩:=wL hto rfl hH.2.2.1 hH.2.2.2
     obtain⟨r',hq⟩: ∃ r',gather st.hp 60 [k] []=k::r':=by
      have:gather st.hp 60 [k] []=gather st.hp 59 (refs cs0++[]) ([]++[k]):=by
       rw [gather];simp only [memN];rw [ho]
      rw [this];exact vk st.hp 59 _ _ k [] rfl
     have hCs: ∃ c0 cs,Cs=c0::cs:=by
      cases Cs with
      |nil=>rw [hq] at h5;simp at h4 h5;omega
      |cons c0 cs=>exact⟨c0,cs,rfl⟩
     obtain⟨c0,cs,rfl⟩:=hCs
     have hb0:=h6 0 k c0 (by rw [hq];rfl) rfl
     have hklt:k<K'.length:=by
      have:=(jh.1 hb0).1
      rw [← h1] at this;simpa using this
     have hck:K'[k]? =some K'[k]:=ji hklt
     have hbk:(CO.pack (c0::cs)).base=(K'[k]).base:=by
      rw [← h1,zS hck] at hb0;simp only [jr] at hb0;exact hb0.symm
     have hbs:(K'.set k (.pack (c0::cs))).map CO.base=K.map CO.base:=by rw [yw hck hbk,h1]
     refine⟨K'.set k (.pack (c0::cs)),hbs,⟨hH.1,by rw [hbs];exact hH.2.1,?_,?_⟩,?_⟩
     · rw [hbs]
       simp only;rw [yE]
       refine h2.set k (Rel.zat (.pack (by simp [h4]) fun i o c e1 e2=> ?_))
       rw [List.getElem?_map,Option.map_eq_some_iff] at e1;obtain⟨o',e3,rfl⟩:=e1;refine HO.yg (bs:=K.map CO.base) (fun q j v e4 e5=> ?_) (h7 i o' c e3 e2);obtain⟨_,e6⟩:=Qi e4;simp only [Nat.sub_zero] at e6
       have hjl:j<(c0::cs).length:=by rw [h4,h5];exact(jh.1 e6).1
       have:=h6 j q _ e6 (ji hjl);rw [e5] at this;cases this;rw [List.getElem?_map,ji hjl];rfl
     · obtain⟨p,r,hp1,hp2,hp3⟩:=yM hck
       rw [hp3,zA];rw [hp1,zA] at h3;have H4:=(h3.perm (zK _ _ _ _ _)).tail
       have H5:At w (CO.zl (c0::cs)++(frzC S::((CO.zl p++CO.zl r)++X.fr))):=by
        refine H4.perm ?_;refine List.Perm.trans ?_ List.perm_middle.symm;refine List.Perm.cons _ ?_;have h9:((CO.zl p++CO.zl r)++CO.zl (c0::cs)).Perm (CO.zl (c0::cs)++(CO.zl p++CO.zl r)):=List.perm_append_comm;have h10:=h9.append_right X.fr;rw [jk (CO.zl p++CO.zl r),jk (CO.zl (c0::cs))] at h10;exact h10
       have H6:At w ((CO.pack (c0::cs)).chunk::(frzC S::((CO.zl p++CO.zl r)++X.fr))):=At.many.2 H5;exact H6.perm (zK _ _ _ _ _).symm
     · rw [hbs];exact⟨hE.size,hE.defers,hE.slots⟩
   · exact⟨K,rfl,hH,hE⟩
 · exact⟨K,rfl,hH,hE⟩
structure SlE where
 T:Nat
 off:Nat
 u:U
 E:Option Nat
def fix1 (k:Nat) (e:SlE) (st:St):St:=
 match nth st.hp k with
 | some (.obj ty cs)=>match Nat.beq ty e.T,nth cs e.off with
   | true,some .nilS=>(match e.E with
     |some E=> { st with hp:=setN st.hp k (.obj ty (setN cs e.off (.row st.hp.length)))++[.row e.u E []]}
     |none=> { st with hp:=setN st.hp k (.obj ty (setN cs e.off (.p (.list e.u []))))})
   |_,_=>st
 |_=>st
def zeb (k:Nat):List SlE→St→St
 |[],st=>st
 |e::es,st=>zeb k es (fix1 k e st)
def zec (sl:List SlE):List Nat→St→St
 |[],st=>st
 |k::ks,st=>zec sl ks (zeb k sl st)
def zmU:List SlE→Bool
 |⟨T,_,_,_⟩::_=>Nat.beq T 1000000
 |[]=>false
def zlT:List SlE:=[⟨1000000,0,.byte,none⟩]
def zmo:List SlE→Bool
 |⟨T,_,_,_⟩::_=>Nat.beq T 1000002
 |[]=>false
def zkb:List SlE:=[⟨1000002,0,.byte,none⟩]
def zk6:List SlE→Nat→Bool
 |[],_=>false
 | ⟨T,off,_,_⟩::l,t=>match Nat.beq off 1000001 with
   |true=>(match Nat.beq T t with|true=>true|false=>zk6 l t)
   |false=>zk6 l t
def VR (sl:List SlE):List Nat→St→St
 |[],st=>st
 | q::qs,st=>match nth st.hp q with
   |some (.obj t _)=>(match zk6 sl t with|true=>VR sl qs (st.shut0 q)|false=>VR sl qs st)
   |_=>VR sl qs st
def zkf:List SlE→Bool
 |[]=>false
 |⟨_,off,_,_⟩::l=>match Nat.beq off 1000001 with|true=>true|false=>zkf l
def zjr (sl:List SlE) (k:Nat) (st:St):St:=match zkf sl with
 |true=>VR sl (gather st.hp 60 [k] []).reverse st
 |false=>st
def zgJ:List SlE→Nat→Bool
 |[],_=>false
 | ⟨T,off,_,_⟩::l,t=>match Nat.beq off 1000003 with
   |true=>(match Nat.beq T t with|true=>true|false=>zgJ l t)
   |false=>zgJ l t
def St.zf5 (sl:List SlE) (st:St) (k:Nat):St:=(zjr sl k (zec sl (gather st.hp 60 [k] []) st)).shut0 k
def Wl (sl:List SlE):List Nat→St→St
 |[],st=>st
 |k::ks,st=>Wl sl ks (st.zf5 sl k)
def zml (sl:List SlE) (st:St) (k:Nat):Option (List Nat):=match nth st.hp k with
 |some (.obj t cs)=>(match zgJ sl t with|true=>some (refs cs)|false=>none)
 |_=>none
def St.shut (sl:List SlE) (st:St) (k:Nat):St:=match zmU sl with
 |true=>st.ze5 k
 | false=>match zmo sl with
   |true=>st
   | false=>match zml sl st k with
     |some ks=>Wl sl ks st
     |none=>st.zf5 sl k
theorem qy {X:Ctx} {hp:List HO} {w:World} {S:Frz} {K:List CO} (hH:Heap X hp S K w) (u:U) (E:Nat):
  Ext (K.map CO.base) ((K++[CO.row E u.size none 0 0 []]).map CO.base)∧Heap X (hp++[.row u E []]) S (K++[CO.row E u.size none 0 0 []]) w∧MC S ((K++[CO.row E u.size none 0 0 []]).map CO.base) (.row hp.length) (.slice none 0 0):=by
 have he:Ext (K.map CO.base) ((K++[CO.row E u.size none 0 0 []]).map CO.base):=by rw [List.map_append];exact Ext.append _ _
 refine⟨he,⟨hH.1,fun k v h=>he k v (hH.2.1 k v h),?_,?_⟩,?_⟩
 · exact(hH.2.2.1.mono (Frz.le.refl S) he).push (Rel.row (l:=([]:List u.den)) (Elts.nil S u).1 (Elts.nil S u).2)
 · exact At.more (hH.2.2.2.nilRow E u.size)
 · rw [hH.2.2.1.1]
   exact⟨yO _ _,none,0,0,rfl⟩
theorem zfv {X:Ctx} {st:St} {a:Act} {w:World} {S:Frz} {K:List CO} (hH:Heap X st.hp S K w) (hE:Env S (K.map CO.base) st a) (k:Nat) (e:SlE):
  ∃ K',Ext (K.map CO.base) (K'.map CO.base)∧Heap X (fix1 k e st).hp S K' w∧Env S (K'.map CO.base) (fix1 k e st) a:=by
 unfold fix1
 split
 · rename_i ty cs ho
   split
   · rename_i hc
     rw [yc] at ho hc;obtain⟨c,hk,hr⟩:=hH.2.2.1.get ho;have hklt:=(jh.1 hk).1
     cases hr with
     | @obj _ b _ _ vs hm=>
       obtain⟨v,hv,hv0⟩:=hm.get hc;cases hv0
       have turn: ∀ {hp':List HO} {K':List CO} {x:C},Ext (K.map CO.base) (K'.map CO.base)→K'[k]? =some (.obj b ty vs)→Heap X hp' S K' w→MC S (K'.map CO.base) x (.slice none 0 0)→Heap X (hp'.set k (.obj ty (cs.set e.off x))) S K' w:=by
        intro hp' K' x hex hk' hH' hx;refine⟨hH'.1,hH'.2.1,?_,hH'.2.2.2⟩;have h1:=(hm.mono (Frz.le.refl S) hex).set e.off hx
        have e1:vs.set e.off (.slice none 0 0)=vs:=by
         apply List.ext_getElem?;intro j;rw [List.getElem?_set]
         split
         · rename_i hj;subst hj;split
           · exact hv.symm
           · rename_i hno;rw [List.getElem?_eq_none (by omega)]
         · rfl
        rw [e1] at h1;have h2:=hH'.2.2.1.set k (Rel.obj (b:=b) (T:=ty) h1)
        have e2:K'.set k (.obj b ty vs)=K':=by
         apply List.ext_getElem?;intro j;rw [List.getElem?_set]
         split
         · rename_i hj;subst hj;split
           · exact hk'.symm
           · rename_i hno;rw [List.getElem?_eq_none (by omega)]
         · rfl
        rw [e2] at h2;exact h2
       split
       · rename_i E hE2
         obtain⟨h1,h2,h3⟩:=qy hH e.u E;refine⟨_,h1,?_,⟨hE.size,hE.defers.mono (Frz.le.refl S) h1,fun t d h=>(hE.slots t d h).mono (Frz.le.refl S) h1⟩⟩
         have h4:=turn h1 (by rw [jw hklt];exact hk) h2 h3
         have hlt2:=(jh.1 ho).1;rw [List.set_append_left _ _ hlt2] at h4;simp only;rw [yE,yE];exact h4
       · refine⟨K,Ext.refl _,?_,⟨hE.size,hE.defers,hE.slots⟩⟩
         simp only;rw [yE,yE];exact turn (Ext.refl _) hk hH (Yy e.u)
   · exact⟨K,Ext.refl _,hH,hE⟩
 · exact⟨K,Ext.refl _,hH,hE⟩
theorem XT {X:Ctx} {a:Act} {w:World} {S:Frz} (k:Nat): ∀ {sl:List SlE} {st:St} {K:List CO},Heap X st.hp S K w→Env S (K.map CO.base) st a→∃ K',Ext (K.map CO.base) (K'.map CO.base)∧Heap X (zeb k sl st).hp S K' w∧Env S (K'.map CO.base) (zeb k sl st) a
 |[],st,K,hH,hE=>⟨K,Ext.refl _,hH,hE⟩
 | e::es,st,K,hH,hE=>by
   obtain⟨K1,h1,h2,h3⟩:=zfv hH hE k e;obtain⟨K2,h4,h5,h6⟩:=XT k (sl:=es) h2 h3;exact⟨K2,h1.trans h4,h5,h6⟩
theorem XU {X:Ctx} {a:Act} {w:World} {S:Frz} {sl:List SlE}: ∀ {ks:List Nat} {st:St} {K:List CO},Heap X st.hp S K w→Env S (K.map CO.base) st a→∃ K',Ext (K.map CO.base) (K'.map CO.base)∧Heap X (zec sl ks st).hp S K' w∧Env S (K'.map CO.base) (zec sl ks st) a
 |[],st,K,hH,hE=>⟨K,Ext.refl _,hH,hE⟩
 | k::ks,st,K,hH,hE=>by
   obtain⟨K1,h1,h2,h3⟩:=XT k (sl:=sl) hH hE;obtain⟨K2,h4,h5,h6⟩:=XU (ks:=ks) h2 h3;exact⟨K2,h1.trans h4,h5,h6⟩
theorem uO {X:Ctx} {a:Act} {w:World} {S:Frz} {sl:List SlE}: ∀ {ks:List Nat} {st:St} {K:List CO},Heap X st.hp S K w→Env S (K.map CO.base) st a→∃ K',K'.map CO.base=K.map CO.base∧Heap X (VR sl ks st).hp S K' w∧Env S (K'.map CO.base) (VR sl ks st) a
 |[],st,K,hH,hE=>⟨K,rfl,hH,hE⟩
 | q ::qs,st,K,hH,hE=>by
   unfold VR
   split
   · split
     · obtain⟨K1,h1,h2,h3⟩:=Vm hH hE q
       obtain⟨K2,h4,h5,h6⟩:=uO (ks:=qs) h2 h3;exact⟨K2,h4.trans h1,h5,h6⟩
     · exact uO (ks:=qs) hH hE
   · exact uO (ks:=qs) hH hE
theorem zci {X:Ctx} {a:Act} {w:World} {S:Frz} {sl:List SlE} {k:Nat} {st:St} {K:List CO} (hH:Heap X st.hp S K w) (hE:Env S (K.map CO.base) st a): ∃ K',K'.map CO.base=K.map CO.base∧Heap X (zjr sl k st).hp S K' w∧Env S (K'.map CO.base) (zjr sl k st) a:=by
 unfold zjr
 split
 · exact uO hH hE
 · exact⟨K,rfl,hH,hE⟩
theorem Vl {X:Ctx} {st:St} {a:Act} {w:World} {S:Frz} {K:List CO} {sl:List SlE} (hH:Heap X st.hp S K w) (hE:Env S (K.map CO.base) st a) (k:Nat):
  ∃ K',Ext (K.map CO.base) (K'.map CO.base)∧Heap X (st.zf5 sl k).hp S K' w∧Env S (K'.map CO.base) (st.zf5 sl k) a:=by
 unfold St.zf5;obtain⟨K1,h1,h2,h3⟩:=XU (sl:=sl) (ks:=gather st.hp 60 [k] []) hH hE;obtain⟨K3,h7,h8,h9⟩:=zci (sl:=sl) (k:=k) h2 h3;obtain⟨K2,h4,h5,h6⟩:=Vm h8 h9 k
 exact⟨K2,by rw [h4,h7];exact h1,h5,h6⟩
theorem Zw {X:Ctx} {a:Act} {w:World} {S:Frz} {sl:List SlE}: ∀ (ks:List Nat) {st:St} {K:List CO},Heap X st.hp S K w→Env S (K.map CO.base) st a→
  ∃ K',Ext (K.map CO.base) (K'.map CO.base)∧Heap X (Wl sl ks st).hp S K' w∧Env S (K'.map CO.base) (Wl sl ks st) a
 |[],st,K,hH,hE=>⟨K,Ext.refl _,hH,hE⟩
 | k::ks,st,K,hH,hE=>by
   obtain⟨K1,h1,h2,h3⟩:=Vl (sl:=sl) hH hE k;obtain⟨K2,h4,h5,h6⟩:=Zw ks h2 h3;exact⟨K2,h1.trans h4,h5,h6⟩
theorem Xe {X:Ctx} {st:St} {a:Act} {w:World} {S:Frz} {K:List CO} {sl:List SlE} (hH:Heap X st.hp S K w) (hE:Env S (K.map CO.base) st a) (k:Nat):
  ∃ K',Ext (K.map CO.base) (K'.map CO.base)∧Heap X (st.shut sl k).hp S K' w∧Env S (K'.map CO.base) (st.shut sl k) a:=by
 unfold St.shut
 split
 · exact tZ hH hE k
 split
 · exact⟨K,Ext.refl _,hH,hE⟩
 split
 · exact Zw _ hH hE
 · exact Vl hH hE k
def C.al (k n:Nat) (u:U) (len:Int):C→C
 |.row j=>match Nat.beq j k with|true=>.sub u n 0 len|false=>.row j
 |.sub u' j lo hi=>match Nat.beq j k with|true=>.sub u' n lo hi|false=>.sub u' j lo hi
 |.ept u' j i off=>match Nat.beq j k with|true=>.ept u' n i off|false=>.ept u' j i off
 |c=>c
def V0.al (k n:Nat) (u:U) (len:Int):V0→V0
 |.one c=>.one (c.al k n u len)
 |.agg cs=>.agg (cs.map (C.al k n u len))
def D.al (k n:Nat) (u:U) (len:Int):D→D
 |.v x=>.v (x.al k n u len)
 |.tup vs=>.tup (vs.map (V0.al k n u len))
 |.bad=>.bad
def HO.al (k n:Nat) (u:U) (len:Int):HO→HO
 |.obj T cs=>.obj T (cs.map (C.al k n u len))
 |o=>o
def zjT (k n:Nat) (u:U) (len:Int):List (Nat × D)→List (Nat × D)
 |[]=>[]
 |(t,d)::r=>(t,d.al k n u len)::zjT k n u len r
def zjA (I:Alg) (T:Tab) (st:St) (t ut:Nat) (s x:Operand):Option (Prop × St × St):=
 match T t,T ut,oneC (st.eval s),oneC (st.eval x) with
 | some ⟨.slice E,_,_,_,some u⟩,some ue,some (.row k),some cx=>(match ue.ty with
   |.int _=>none
   |.other=>none
   | _ =>match T E,zf2 I st.hp u cx,nth st.hp k with
     | some ee,some m,some (.row u' E' l')=>(match Nat.ble ee.bytes 1000000,ee.zero,Nat.beq E E',zfA u u' l' with
       |true,some _,true,some l=>some (I.few (I.add (I.len l) (I.len m)) 100000000,
        { st with env:=zjT k st.hp.length u (I.len l) st.env,hp:=setN (st.hp.map (HO.al k st.hp.length u (I.len l))) k .gone++[.row u E (I.app l m)]},
        { st with hp:=st.hp++[.row u E (I.app l m)]})
       |_,_,_,_=>none)
     |_,_,_=>none)
 |_,_,_,_=>none
section
variable {Pr:Program} {T:Tab} {X:Ctx} {st:St} {a:Act} {w:World} {S:Frz} {K:List CO}
theorem C.Zr {bs bs':List Value} (he:Ext bs bs') {k n:Nat} {u:U} {g:Addr} {L L2 cap cap2:Nat} (hk:bs[k]? =some (.slice (some g) L cap)) (hn:bs'[n]? =some (.slice (some g) L2 cap2)) (hL:L≤L2) (hc:L≤cap) (hm:cap≤maxLen) (hcc:cap≤cap2)
  (c:C) (v:Value) (h:MC S bs c v):MC S bs' (c.al k n u (L:Int)) v:=by
 have keep:MC S bs' c v:=MC.mono (Frz.le.refl S) he h
 cases c with
 | row j=>
   simp only [C.al]
   split
   · rename_i hj
     obtain rfl:=jH hj;obtain⟨h1,ao,n',cap',rfl⟩:=h;rw [hk] at h1;simp only [jr,Value.slice.injEq] at h1;obtain⟨rfl,rfl,rfl⟩:=h1
     refine⟨some g,L2,cap2,hn,Int.le_refl 0,by omega,some g,cap,?_,by omega,by omega,by omega,hm,(fun e=>by cases e),fun _=> ?_,fun _=>⟨rfl,hcc⟩⟩
     · simp
     · simp only [Int.toNat_zero,Nat.zero_mul,Option.map_some]
       congr 1
   · exact keep
 | sub u' j lo hi=>
   simp only [C.al]
   split
   · rename_i hj
     obtain rfl:=jH hj;obtain⟨ao,n',cap',h1,h2,h3,ao',cap3,h4,h5,h6,h7,h8,h9,h10⟩:=h;rw [hk] at h1;simp only [jr,Value.slice.injEq] at h1;obtain⟨rfl,rfl,rfl⟩:=h1
     exact⟨some g,L2,cap2,hn,h2,h3,ao',cap3,h4,h5,by omega,h7,h8,h9,h10.1,fun h0=>⟨(h10.2 h0).1,Nat.le_trans (h10.2 h0).2 hcc⟩⟩
   · exact keep
 | ept u' j i off=>
   simp only [C.al]
   split
   · rename_i hj
     obtain rfl:=jH hj;obtain⟨ao,n',cap',h1,h2,h3⟩:=h;rw [hk] at h1;simp only [jr,Value.slice.injEq] at h1;obtain⟨rfl,rfl,rfl⟩:=h1;exact⟨some g,L2,cap2,hn,h2,h3⟩
   · exact keep
 |_=>exact keep
theorem V0.Zr {bs bs':List Value} {k n:Nat} {u:U} {len:Int} (hf: ∀ c v,MC S bs c v→MC S bs' (c.al k n u len) v) (c:V0) (v:Value) (h:MV S bs c v):MV S bs' (c.al k n u len) v:=by
 cases c with
 |one c=>exact hf c v h
 |agg cs=>obtain⟨vs,h1,h2⟩:=h;exact⟨vs,h1.map hf,h2⟩
theorem D.Zr {bs bs':List Value} {k n:Nat} {u:U} {len:Int} (hf: ∀ c v,MC S bs c v→MC S bs' (c.al k n u len) v) {d:D} {v:Value} (h:MD S bs d v):MD S bs' (d.al k n u len) v:=by
 cases d with
 |v x=>exact V0.Zr hf x v h
 |tup vs=>obtain⟨us,h1,h2⟩:=h;exact⟨us,h1.map (V0.Zr hf),h2⟩
 |bad=>trivial
theorem zg1 {k n:Nat} {u:U} {len:Int}: ∀ {env:List (Nat × D)} {t:Nat} {d:D},look (zjT k n u len env) t=some d→∃ d',look env t=some d'∧d=d'.al k n u len
 |[],t,d,h=>by cases h
 | (s,d0)::r,t,d,h=>by
   simp only [zjT] at h;rw [xw] at h ⊢
   split at h
   · rename_i hs;cases h;exact⟨d0,by rw [if_pos hs],rfl⟩
   · rename_i hs;obtain⟨d',h1,h2⟩:=zg1 h;exact⟨d',by rw [if_neg hs];exact h1,h2⟩
variable {dst:Option Tmp} {ty:TypeId} {pos:String} {af:Array Edge} {gd:Option (Nat × Bool)}
theorem zfm (hT:T.fits Pr) (hH:Heap X st.hp S K w) (hE:Env S (K.map CO.base) st a) {t ut:Nat} {s x:Operand} {p:Prop} {stA stB:St} (hf:zjA alg T st t ut s x=some (p,stA,stB)) (hp:p):
  ∃ v w' K' st',(st'=stA∨st'=stB)∧Does Pr a w ⟨dst,.call { callee:=.builtin .append,args:= #[s,x],argTypes:= #[t,ut]},ty,pos,af,gd⟩ v w'∧Heap X st'.hp S K' w'∧Env S (K'.map CO.base) st' a∧MD S (K'.map CO.base) (.v (.one (.row st.hp.length))) v:=by
 unfold zjA at hf
 split at hf
 · rename_i E n1 n2 z u ue k cx hte hue hcs hcx
   split at hf
   · cases hf
   · cases hf
   · rename_i hni hno
     split at hf
     · rename_i ee m u' E' l' hee hm ho
       split at hf
       · rename_i zz l hby hez hb hcast
         simp only [jr,Prod.mk.injEq] at hf;obtain⟨rfl,rfl,rfl⟩:=hf;have hby:=Nat.le_of_ble_eq_true hby;have hb:=jH hb;subst hb;obtain⟨e,he⟩:=Y2 hcast;subst e;subst he;have hms:=(hH.sit hT hE).one hcs;have hmx:=(hH.sit hT hE).one hcx;generalize hxv:a.eval x=xv at hmx;generalize hsv:a.eval s=sv at hms;obtain⟨us,hsrc,helt⟩:=ZA hT hH hE hm hmx;rw [tJ,vF,yh,yh] at hp;rw [yc] at ho;obtain⟨ao0,cap0,vs,hk,hlen,hxs,hrd⟩:=(hH.sit hT hE).row ho;have hv:=hms.1;rw [zS hk] at hv;cases hv;obtain⟨pp,r,hp1,hp2,hfront⟩:=uD hk hH.2.2.2;obtain⟨ao,cap,w',hd,hA⟩:=zbG (dst:=dst) (ty:=ty) (pos:=pos) (af:=af) (gd:=gd) (S:=S) hT hte hue (fun k h=>hni k h) (fun h=>hno h) hee hby hez hsv hxv hfront hsrc helt (.inr hp);have hall:=Elts.append ⟨hlen,hxs⟩ helt;obtain⟨_,_,erd,hnc,hcm,_⟩:=hrd;cases erd
         rcases hA with hA|⟨hA,g,cap9,e1,e2⟩
         ·
          have he:Ext (K.map CO.base) ((K++[CO.row E u'.size ao (l'++m).length cap (vs++us)]).map CO.base):=by rw [List.map_append];exact Ext.append _ _
          refine⟨_,w',K++[CO.row E u'.size ao (l'++m).length cap (vs++us)],_,.inr rfl,hd,⟨hH.1,fun k v h=>he k v (hH.2.1 k v h),?_,?_⟩,⟨hE.size,hE.defers.mono (Frz.le.refl S) he,fun t d h=>(hE.slots t d h).mono (Frz.le.refl S) he⟩,?_⟩
          · exact(hH.2.2.1.mono (Frz.le.refl S) he).push (.row hall.1 hall.2)
          · refine At.more ?_
            have h5:=hA.perm (List.Perm.swap _ _ _);rw [hp1,zA];refine hA.perm ?_;refine List.Perm.cons _ ?_;exact(zK (frzC S) (CO.zl pp) (CO.zl r) _ X.fr).symm
          · show MC S _ (.row st.hp.length) _
            rw [hH.2.2.1.1];exact⟨yO _ _,_,_,_,rfl⟩
         ·
          cases e1;obtain⟨e2,hc02⟩:=e2;subst e2;have hbs:(K.set k (.gone (.slice (some g) l'.length cap0))).map CO.base=K.map CO.base:=yw hk rfl
          have hb2:(K.set k (.gone (.slice (some g) l'.length cap0))++[CO.row E u'.size (some g) (l'++m).length cap (vs++us)]).map CO.base=K.map CO.base++[.slice (some g) (l'++m).length cap]:=by rw [List.map_append,hbs];rfl
          have he:Ext (K.map CO.base) (K.map CO.base++[.slice (some g) (l'++m).length cap]):=Ext.append _ _
          have hlk:st.hp.length=(K.map CO.base).length:=by rw [hH.2.2.1.1,List.length_map]
          have hal: ∀ c v,MC S (K.map CO.base) c v→MC S (K.map CO.base++[.slice (some g) (l'++m).length cap]) (c.al k st.hp.length u' (alg.len l')) v:=fun c v hm=>by
           rw [yh]
           exact C.Zr (L2:=(l'++m).length) (cap2:=cap) he (zS hk) (by rw [hlk,jy (jK _)];simp) (by simp) hnc hcm (Nat.le_of_eq hc02) c v hm
          refine⟨_,w',K.set k (.gone (.slice (some g) l'.length cap0))++[CO.row E u'.size (some g) (l'++m).length cap (vs++us)],_,.inl rfl,hd,⟨hH.1,fun k v h=> ?_,?_,?_⟩,?_,?_⟩
          · rw [hb2];exact he k v (hH.2.1 k v h)
          · rw [hb2]
            refine HR.push ?_ (.row hall.1 hall.2);rw [yE]
            refine HR.set ⟨by simp [hH.2.2.1.1],fun i o' c' e1 e2=> ?_⟩ k .gone
            rw [List.getElem?_map,Option.map_eq_some_iff] at e1;obtain⟨o0,e3,rfl⟩:=e1;have:=hH.2.2.1.2 i o0 c' e3 e2
            cases this with
            |obj hm=>exact .obj (hm.map hal)
            |row a b=>exact .row a b
            |pack a b=>exact .pack a b
            |abs a b=>exact .abs a b
            |rws a b c d e=>exact .rws a b c d fun i x v c' h1 h2 h3=>(e i x v c' h1 h2 h3).mono he
            |gone=>exact .gone
          · refine At.more ?_
            rw [hp2,zA]
            have h6:At w' (frzC S::((CO.zl pp++CO.chunk (CO.gone (.slice (some g) l'.length cap0))::CO.zl r)++(CO.row E u'.size (some g) (l'++m).length cap (vs++us)).chunk::X.fr)):=by
             refine(At.void ?_).perm (zK _ _ _ _ _).symm;refine hA.perm ?_;exact yQ _ _ _ _
            refine h6.perm ?_;exact(yQ _ _ _ _).symm
          · rw [hb2]
            refine⟨hE.size,hE.defers.mono (Frz.le.refl S) (Ext.append _ _),fun t d hd=> ?_⟩;obtain⟨d',h5,rfl⟩:=zg1 hd;exact D.Zr hal (hE.slots t d' h5)
          · show MC S _ (.row st.hp.length) _
            have:st.hp.length=(K.set k (.gone (.slice (some g) l'.length cap0))).length:=by rw [hH.2.2.1.1];simp
            rw [this];exact⟨yO _ _,_,_,_,rfl⟩
       · cases hf
     · cases hf
 · cases hf
end
end Go.Ab
namespace Go.Ab
open Go Go.Sep
variable [Facts]
def St.SK (I:Alg) (st:St) (k:Nat):St:=
 match nth st.hp k with
 | some (.rws u E Eb l (some (i,m)))=>(match nth st.hp m with
   | some (.row .byte Eb' b)=>(match Nat.beq Eb' Eb with
     |true=> { st with hp:=setN (setN st.hp k (.rws u E Eb (I.set l i (Rh u (I.get l (dflt u) i) b)) none)) m .gone}
     |false=>st)
   |_=>st)
 |_=>st
def St.zjd (I:Alg) (st:St) (k:Nat) (i:Int):St:=
 let st1:=st.SK I k
 match nth st1.hp k with
 |some (.rws u E Eb l none)=> { st1 with hp:=setN st1.hp k (.rws u E Eb l (some (i,st1.hp.length)))++[.row .byte Eb (ownB u (I.get l (dflt u) i))]}
 |_=>st1
def zck:Nat→List HO→List Nat
 |_,[]=>[]
 |n,o::r=>match o with|.rws _ _ _ _ (some _)=>n::zck (n+1) r|_=>zck (n+1) r
def zew (I:Alg):List Nat→St→St
 |[],st=>st
 |k::ks,st=>zew I ks (st.SK I k)
def St.zex (I:Alg) (st:St):St:=match zck 0 st.hp with|[]=>st|ks=>zew I ks st
def zc7 (I:Alg) (T:Tab) (st:St) (t:Nat) (x v:Operand):LR:=
 match T t,oneC (st.eval x),oneC (st.eval v) with
 | some e,some (.ept u k i off),some (.row m)=>(match nth st.hp k,nth st.hp m with
   | some (.rws u' E Eb l (some (i',m'))),some (.row .byte Eb' b)=>(match Nat.beq u.size u'.size,ownU u',Nat.beq e.size 1,Nat.beq Eb' Eb with
     | true,some o,true,true=>(match Nat.beq off o with
       |true=>.need (I.same i i') (.need (I.inb i (I.len l)) (.ok .bad { st with hp:=setN (setN st.hp k (.rws u' E Eb (I.set l i (Rh u' (I.get l (dflt u') i) b)) none)) m .gone}))
       |false=>.no)
     |_,_,_,_=>.no)
   |_,_=>.no)
 |_,_,_=>.no
def zjk (I:Alg) (T:Tab) (st:St) (t:Nat) (x y:Operand):LR:=
 match T t,intC (st.eval x),intC (st.eval y) with
 | some ⟨.slice E,_,_,_,some .bytes⟩,some n,some m=>(match T E with
   | some ⟨.slice Eb,sz,by_,some [.list .byte []],_⟩=>(match Nat.beq sz 1,Nat.ble by_ 1000 with
     |true,true=>.need (I.same n m) (.need (I.nng n) (.need (I.few n 1000000) (Yp st (.rws .bytes E Eb (I.rep n ([]:Str)) none) (.row st.hp.length))))
     |_,_=>.no)
   |_=>.no)
 |_,_,_=>.no
def zcL (I:Alg) (T:Tab) (st:St) (t ut:Nat) (s x:Operand):LR:=
 match T t,T ut,oneC (st.eval s),oneC (st.eval x) with
 | some ⟨.slice E,_,_,_,some .prt⟩,some ue,some (.row k),some cx=>(match ue.ty with
   |.int _=>.no
   |.other=>.no
   | _ =>match T E,zf2 I st.hp .prt cx,nth st.hp k with
     | some ee,some [p],some (.rws .prw E' Eb l none)=>(match Nat.ble ee.bytes 1000000,ee.zero,Nat.beq E E' with
       |true,some _,true=>.need (I.same (I.len (α:=UInt8) (Prt.bytes p)) 0) (fewL I ee.bytes (I.add (I.len (α:=Prt) l) 1) (.ok (.v (.one (.row st.hp.length))) { st with hp:=setN st.hp k .gone++[.rws .prw E Eb (I.app (α:=Prt) l [p]) none]}))
       |_,_,_=>.no)
     |_,_,_=>.no)
 |_,_,_,_=>.no
def isW (st:St) (s:Operand):Bool:=
 match oneC (st.eval s) with
 | some (.row k)=>(match nth st.hp k with
   |some (.rws _ _ _ _ _)=>true
   |_=>false)
 |_=>false
def appI (I:Alg) (T:Tab) (st:St) (c:Call):LR:=
 match c.args.toList,c.argTypes.toList with
 | [s,x],[t,u]=>(match isW st s with
   |true=>zcL I T st t u s x
   |false=>lop I T st (.call c))
 |_,_=>lop I T st (.call c)
def Rn (T:Tab) (t Eb ty:Nat) (st:St):St:=
 match look st.env t,T ty with
 |some (.v (.one .nilS)),some ⟨.slice E,_,_,_,some _⟩=>St.put { st with hp:=st.hp++[HO.rws .prw E Eb ([]:List Prt) none]} (some t) (.v (.one (.row st.hp.length)))
 |_,_=>st
def zgR (T:Tab) (rn:List Nat) (rb:Nat) (o:Oper) (st:St):St:=
 match o.dst with
 |some t=>(match memN t rn with|true=>Rn T t rb o.type st|false=>st)
 |none=>st
theorem zlV {α:Type}: ∀ {K:List α} {k m:Nat} {a b:α},K[k]? =some a→K[m]? =some b→k≠m→∃ r,∀ a' b',((K.set k a').set m b').Perm (a'::b'::r)
 |[],k,m,a,b,h,_,_=>by simp at h
 |x::K,0,0,a,b,_,_,hn=>absurd rfl hn
 | x::K,0,m+1,a,b,_,hm,_=>by
   obtain⟨p,r,_,_,h3⟩:=yM (l:=K) (k:=m) (c:=b) (by simpa using hm)
   exact⟨p++r,fun a' b'=>by simp only [List.set_cons_zero,List.set_cons_succ,h3];exact List.Perm.cons _ List.perm_middle⟩
 | x::K,k+1,0,a,b,hk,_,_=>by
   obtain⟨p,r,_,_,h3⟩:=yM (l:=K) (k:=k) (c:=a) (by simpa using hk)
   exact⟨p++r,fun a' b'=>by simp only [List.set_cons_zero,List.set_cons_succ,h3];exact(List.Perm.cons _ List.perm_middle).trans (List.Perm.swap _ _ _)⟩
 | x::K,k+1,m+1,a,b,hk,hm,hn=>by
   obtain⟨r,hr⟩:=zlV (K:=K) (k:=k) (m:=m) (by simpa using hk) (by simpa using hm) (fun e=>hn (by rw [e]))
   exact⟨x::r,fun a' b'=>by simp only [List.set_cons_succ];exact(List.Perm.cons _ (hr a' b')).trans ((List.Perm.swap _ _ _).trans (List.Perm.cons _ (List.Perm.swap _ _ _)))⟩
theorem At.zlM {w w':World} {S:Frz} {K:List CO} {fr:List Chunk} (H:At w (frzC S::(CO.zl K++fr))) {k m:Nat} {a b:CO} (hk:K[k]? =some a) (hm:K[m]? =some b) (hn:k≠m) (a' b':CO)
  (h: ∀ L,At w (a.chunk::b.chunk::L)→At w' (a'.chunk::b'.chunk::L)):At w' (frzC S::(CO.zl ((K.set k a').set m b')++fr)):=by
 obtain⟨r,hr⟩:=zlV hk hm hn
 have h0:(K.set k a).set m b=K:=by
  apply List.ext_getElem?;intro i;simp only [List.getElem?_set,List.length_set]
  by_cases h1:m=i
  · subst h1;rw [if_pos rfl,if_pos (jh.1 hm).1,hm]
  · rw [if_neg h1]
    by_cases h2:k=i
    · subst h2;rw [if_pos rfl,if_pos (jh.1 hk).1,hk]
    · rw [if_neg h2]
 have hp: ∀ a' b':CO,(frzC S::(CO.zl ((K.set k a').set m b')++fr)).Perm (a'.chunk::b'.chunk::(frzC S::(CO.zl r++fr))):=fun a' b'=>by
  have e1:=(hr a' b').map CO.chunk;rw [← CO.Y0] at e1;refine(List.Perm.cons _ (e1.append_right fr)).trans ?_;rw [List.map_cons,List.map_cons,← CO.Y0];exact(List.Perm.swap _ _ _).trans (List.Perm.cons _ (List.Perm.swap _ _ _))
 have H1:=hp a b;rw [h0] at H1;exact(h _ (H.perm H1)).perm (hp a' b').symm
theorem At.UO {w:World} {c:CO} {R:List CO} {L:List Chunk} (H:At w (c.chunk::(CO.zl R++L))):At w ((CO.pack (c::R)).chunk::L):=by
 have:At w (CO.zl (c::R)++L):=by simpa [CO.zl] using H
 exact At.many.2 this
theorem zkp {z:List Value} (h:yC z [.list .byte []]=true):z=[.slice none 0 0]:=by
 unfold yC at h
 split at h
 all_goals first
  |contradiction
  |(rename_i vs _ h1 h2;cases h2<;>(cases vs with|nil=>rfl|cons _ _=>simp [yC] at h))
  |(rename_i vs _ _ h2;cases h2<;>(cases vs with|nil=>rfl|cons _ _=>simp [yC] at h))
  |(rename_i vs h1 h2;cases h2<;>(cases vs with|nil=>rfl|cons _ _=>simp [yC] at h))
theorem At.swapRow {w:World}: ∀ {R:List CO} {c:CO} {L:List Chunk} (i:Nat),At w (CO.zl R++c.chunk::L)→At w (CO.zl (R.set i c)++L)
 |[],c,L,i,H=>by simpa [CO.zl] using H.tail
 | x::R,c,L,0,H=>by
   have H1:=(show At w (x.chunk::(CO.zl R++c.chunk::L)) from H).tail;exact(H1.perm List.perm_middle:At w (c.chunk::(CO.zl R++L)))
 | x ::R,c,L,i+1,H=>by
   have H1:At w (CO.zl R++c.chunk::(x.chunk::L)):=by
    refine(show At w (x.chunk::(CO.zl R++c.chunk::L)) from H).perm ?_;refine List.perm_middle.symm.trans ?_;exact List.Perm.append_left _ (List.Perm.swap _ _ _)
   have H2:=At.swapRow i H1;exact H2.perm List.perm_middle
theorem At.takeRow {w:World} {v:Value}: ∀ {R:List CO} {c:CO} {L:List Chunk} {i:Nat},R[i]? =some c→At w (CO.zl R++L)→At w (CO.zl (R.set i (.gone v))++c.chunk::L)
 |[],c,L,i,h,H=>by simp at h
 | x::R,c,L,0,h,H=>by
   simp only [List.getElem?_cons_zero,jr] at h;subst h;have H1:At w (CO.zl R++x.chunk::L):=(show At w (x.chunk::(CO.zl R++L)) from H).perm List.perm_middle.symm;exact At.void H1
 | x::R,c,L,i+1,h,H=>by
   have H1:At w (CO.zl R++x.chunk::L):=(show At w (x.chunk::(CO.zl R++L)) from H).perm List.perm_middle.symm
   have H2:=At.takeRow (v:=v) (i:=i) (by simpa using h) H1
   have H3:At w (CO.zl (R.set i (.gone v))++x.chunk::c.chunk::L):=H2.perm (List.Perm.append_left _ (List.Perm.swap _ _ _));exact H3.perm List.perm_middle
section
variable {Pr:Program} {T:Tab} {X:Ctx} {st:St} {a:Act} {w:World} {S:Frz} {K:List CO}
theorem byteRow {bs:List Value} {Eb:Nat} {b:Str} {c:CO} (h:Rel S bs (.row .byte Eb b) c): ∃ ao cap,c=.row Eb 1 ao b.length cap (bvs b):=by
 cases h with
 |row hlen hx=>rw [Ut hlen hx];exact⟨_,_,rfl⟩
theorem ziI.put {u:U} {E Eb:Nat} {l:List u.den} {h:Option (Int × Nat)} {k o:Nat} {ao:Option Addr} {cap:Nat} {vs:List Value} {R:List CO} (hA:ziI S K w k u E Eb l h o ao cap vs R)
  {i:Int} (hh: ∀ j,j≠i.toNat→rX h j=none) {b:Str} {ao':Option Addr} {cap':Nat} {vs':List Value} (hl:vs'.length=vs.length)
  (hv: ∀ (q:Nat) (v:Value),q≠i.toNat * u.size+o→vs'[q]? =some v→vs[q]? =some v)
  (hb:i.toNat<l.length→vs'[i.toNat * u.size+o]? =some (.slice ao' b.length cap')) (bs:List Value):
  Rel S bs (.rws u E Eb (alg.set l i (Rh u (alg.get l (dflt u) i) b)) none) (.pack (.row E u.size ao l.length cap vs'::R.set i.toNat (.row Eb 1 ao' b.length cap' (bvs b)))):=by
 have hol:=zdD hA.own
 have hsl:(alg.set l i (Rh u (alg.get l (dflt u) i) b)).length=l.length:=by rw [Uz];simp
 rw [← hsl]
 have hix: ∀ (j:Nat) (x:u.den),(alg.set l i (Rh u (alg.get l (dflt u) i) b))[j]? =some x→(j=i.toNat∧i.toNat<l.length∧x=Rh u (alg.get l (dflt u) i) b)∨(j≠i.toNat∧l[j]? =some x):=fun j x hj=>by
  rw [Uz,List.getElem?_set] at hj
  by_cases e:i.toNat=j
  · rw [if_pos e] at hj
    split at hj
    · rename_i hlt;cases hj;exact .inl ⟨e.symm,by omega,rfl⟩
    · cases hj
  · rw [if_neg e] at hj;exact .inr ⟨fun e'=>e e'.symm,hj⟩
 have hne: ∀ j q:Nat,j≠i.toNat→q<u.size→j * u.size+q≠i.toNat * u.size+o:=fun j q hj hq e=>by
  rcases Nat.lt_or_gt_of_ne hj with h1|h1
  · have:j * u.size+u.size≤i.toNat * u.size:=by rw [← Nat.succ_mul];exact Nat.mul_le_mul_right _ h1
    omega
  · have:i.toNat * u.size+u.size≤j * u.size:=by rw [← Nat.succ_mul];exact Nat.mul_le_mul_right _ h1
    omega
 refine .rws (o:=o) hA.own (by rw [hl,hsl];exact hA.len) (by rw [hsl];simp [hA.rows]) (fun j x q p v h1 h2 h3 h4=> ?_) fun j x v c h1 h2 h3=> ?_
 · have hq:q<u.size:=by have:=(jh.1 h2).1;rwa [yJ] at this
   have h4':=hv _ v (fun e=>by
    by_cases hj:j=i.toNat
    · rw [hj] at e;exact h3 (by omega)
    · exact hne j q hj hq e) h4
   rcases hix j x h1 with⟨rfl,hlt,rfl⟩|⟨_,h5⟩
   · rw [zja hA.own _ _ h3] at h2
     exact hA.cells i.toNat _ q p v (by rw [ZU];simp [hlt]) h2 h3 h4'
   · exact hA.cells j x q p v h5 h2 h3 h4'
 · rcases hix j x h1 with⟨rfl,hlt,rfl⟩|⟨hj,h5⟩
   · rw [zjc hA.own]
     rw [hb hlt] at h2;cases h2
     rw [List.getElem?_set_self (by rw [hA.rows];exact hlt)] at h3
     cases h3;exact⟨ao',cap',rfl,rfl⟩
   · rw [List.getElem?_set_ne (fun e=>hj e.symm)] at h3
     have h6:=hA.bytes j x v c h5 (hv _ v (hne j o hj hol) h2) h3;rw [hh j hj] at h6;exact h6
theorem zdX {i:Int} {m j:Nat} (h:j≠i.toNat):rX (some (i,m)) j=none:=by
 simp only [rX];rw [if_neg (fun e=>h e.symm)]
theorem ziI.cell {u:U} {E Eb:Nat} {l:List u.den} {h:Option (Int × Nat)} {k o:Nat} {ao:Option Addr} {cap:Nat} {vs:List Value} {R:List CO} (hA:ziI S K w k u E Eb l h o ao cap vs R) {i:Nat} (hi:i<l.length):i * u.size+o<vs.length:=by
 rw [hA.len]
 have h1:i * u.size+u.size≤l.length * u.size:=by rw [← Nat.succ_mul];exact Nat.mul_le_mul_right _ hi
 have:=zdD hA.own;omega
theorem XZ (hH:Heap X st.hp S K w) (hE:Env S (K.map CO.base) st a) (k:Nat):
  ∃ K',K'.map CO.base=K.map CO.base∧Heap X (st.SK alg k).hp S K' w∧Env S (K'.map CO.base) (st.SK alg k) a:=by
 unfold St.SK
 split
 case h_2=>exact⟨K,rfl,hH,hE⟩
 rename_i u E Eb l i m ho
 split
 case h_2=>exact⟨K,rfl,hH,hE⟩
 rename_i Eb' b hm
 split
 case h_2=>exact⟨K,rfl,hH,hE⟩
 rename_i heb;have heb:=jH heb;subst heb;rw [yc] at ho hm;obtain⟨o,ao,cap,vs,R,hA⟩:=HR.rws (w:=w) hH.2.2.1 ho;obtain⟨c,hc,hrel⟩:=hH.2.2.1.get hm;obtain⟨ao',cap',rfl⟩:=byteRow hrel
 have hkm:k≠m:=fun e=>by subst e;rw [ho] at hm;cases hm
 have hb1:(K.set k (.pack (.row E u.size ao l.length cap vs::R.set i.toNat (.row Eb' 1 ao' b.length cap' (bvs b))))).map CO.base=K.map CO.base:=yw hA.at_ rfl
 have hm1:(K.set k (.pack (.row E u.size ao l.length cap vs::R.set i.toNat (.row Eb' 1 ao' b.length cap' (bvs b)))))[m]? =some (.row Eb' 1 ao' b.length cap' (bvs b)):=by rw [List.getElem?_set_ne hkm];exact hc
 have hbs:((K.set k (.pack (.row E u.size ao l.length cap vs::R.set i.toNat (.row Eb' 1 ao' b.length cap' (bvs b))))).set m (.gone (.slice ao' b.length cap'))).map CO.base=K.map CO.base:=(yw (c':=.gone (.slice ao' b.length cap')) hm1 rfl).trans hb1
 refine⟨_,hbs,⟨hH.1,by rw [hbs];exact hH.2.1,?_,?_⟩,by rw [hbs];exact⟨hE.size,hE.defers,hE.slots⟩⟩
 · rw [hbs]
   simp only [yE];refine(hH.2.2.1.set k (hA.put (i:=i) (fun j hj=>zdX hj) rfl (fun q v _ h=>h) (fun hi=> ?_) _)).set m .gone;have hlt:=hA.cell hi
   have h1:=hA.bytes i.toNat _ _ _ (ji hi) (ji hlt) (ji (by rw [hA.rows];exact hi))
   rw [show rX (some (i,m)) i.toNat=some m by simp [rX]] at h1
   have h2:=h1.1;rw [zS hc] at h2;rw [ji hlt,← Option.some.inj h2];rfl
 · refine At.zlM hH.2.2.2 hA.at_ hc hkm _ _ fun L hL=> ?_
   have h1:=At.TF hL
   have h2:At w (CO.zl R++(CO.row Eb' 1 ao' b.length cap' (bvs b)).chunk::((CO.row E u.size ao l.length cap vs).chunk::L)):=by
    refine h1.perm ?_;refine List.perm_middle.symm.trans ?_;exact List.Perm.append_left _ (List.Perm.swap _ _ _)
   have h3:=At.swapRow i.toNat h2;have h4:At w ((CO.row E u.size ao l.length cap vs).chunk::(CO.zl (R.set i.toNat (CO.row Eb' 1 ao' b.length cap' (bvs b)))++L)):=h3.perm List.perm_middle;exact(At.void (At.UO h4)).swap
theorem zb4 (hH:Heap X st.hp S K w) (hE:Env S (K.map CO.base) st a) (k:Nat) (i:Int):
  ∃ K',Ext (K.map CO.base) (K'.map CO.base)∧Heap X (st.zjd alg k i).hp S K' w∧Env S (K'.map CO.base) (st.zjd alg k i) a:=by
 unfold St.zjd;obtain⟨K1,hb,hH1,hE1⟩:=XZ hH hE k;simp only;generalize st.SK alg k=st1 at hH1 hE1
 split
 case h_2=>exact⟨K1,by rw [hb];exact Ext.refl _,hH1,hE1⟩
 rename_i u E Eb l ho;rw [yc] at ho;obtain⟨o,ao,cap,vs,R,hA⟩:=HR.rws (w:=w) hH1.2.2.1 ho;have hlen:st1.hp.length=K1.length:=hH1.2.2.1.1
 obtain ⟨c,R',hcb,hat,hR'l,hR'⟩: ∃ (c:CO) (R':List CO),(∃ ao' cap',c=.row Eb 1 ao' (ownB u (alg.get l (dflt u) i)).length cap' (bvs (ownB u (alg.get l (dflt u) i)))∧(i.toNat<l.length→vs[i.toNat * u.size+o]? =some c.base))∧
   At w (c.chunk::(frzC S::(CO.zl (K1.set k (.pack (.row E u.size ao l.length cap vs::R')))++X.fr)))∧R'.length=R.length∧∀ j c',j≠i.toNat→R'[j]? =some c'→R[j]? =some c':=by
  rcases Nat.lt_or_ge i.toNat l.length with hi|hi
  · have hlt:=hA.cell hi
    have hRi:R[i.toNat]? =some (R[i.toNat]'(by rw [hA.rows];exact hi)):=ji (by rw [hA.rows];exact hi)
    have h1:=hA.bytes i.toNat _ _ _ (ji hi) (ji hlt) hRi;simp only [rX,OwnC] at h1;obtain⟨ao',cap',h2,h3⟩:=h1
    have hg:alg.get l (dflt u) i=l[i.toNat]:=by rw [ZU];simp [hi]
    refine⟨R[i.toNat]'(by rw [hA.rows];exact hi),R.set i.toNat (.gone undef),⟨ao',cap',by rw [hg];exact h2,fun _=> ?_⟩,?_,by simp,fun j c' hj h=>by rwa [List.getElem?_set_ne (fun e=>hj e.symm)] at h⟩
    · rw [ji hlt,h3,h2];rfl
    · obtain⟨p,r,hp1,_,hp3⟩:=yM hA.at_
      have H:=hH1.2.2.2;rw [hp1,zA] at H;have H2:=At.TF (H.perm (zK _ _ _ _ _));have H3:At w (CO.zl R++((CO.row E u.size ao l.length cap vs).chunk::(frzC S::((CO.zl p++CO.zl r)++X.fr)))):=H2.perm List.perm_middle.symm;have H4:=At.takeRow (v:=undef) hRi H3
      generalize R[i.toNat]'(by rw [hA.rows];exact hi)=c0 at H4 ⊢
      rw [hp3,zA]
      have H5:At w ((CO.row E u.size ao l.length cap vs).chunk::(CO.zl (R.set i.toNat (.gone undef))++c0.chunk::(frzC S::((CO.zl p++CO.zl r)++X.fr)))):=by
       refine H4.perm ?_;refine(List.Perm.append_left _ (List.Perm.swap _ _ _)).trans ?_;exact List.perm_middle
      have H6:At w ((CO.pack (.row E u.size ao l.length cap vs::R.set i.toNat (.gone undef))).chunk::(c0.chunk::(frzC S::((CO.zl p++CO.zl r)++X.fr)))):=At.UO (by simpa [jk] using H5)
      refine H6.perm ?_;exact(List.Perm.swap _ _ _).trans (List.Perm.cons _ (zK _ _ _ _ _).symm)
  · have hg:alg.get l (dflt u) i=dflt u:=by rw [ZU];simp [hi]
    refine⟨.row Eb 1 none 0 0 [],R,⟨none,0,by rw [hg,zjb];rfl,fun h=>by omega⟩,?_,rfl,fun j c' _ h=>h⟩
    have:K1.set k (.pack (.row E u.size ao l.length cap vs::R))=K1:=by
     apply List.ext_getElem?;intro j;rw [List.getElem?_set]
     by_cases e:k=j
     · subst e;rw [if_pos rfl,if_pos (jh.1 hA.at_).1,hA.at_]
     · rw [if_neg e]
    rw [this];exact hH1.2.2.2.nilRow Eb 1
 have hbs:(K1.set k (.pack (.row E u.size ao l.length cap vs::R'))).map CO.base=K1.map CO.base:=yw hA.at_ rfl
 have he:Ext (K.map CO.base) ((K1.set k (.pack (.row E u.size ao l.length cap vs::R'))++[c]).map CO.base):=by rw [List.map_append,hbs,hb];exact Ext.append _ _
 have he1:Ext (K1.map CO.base) ((K1.set k (.pack (.row E u.size ao l.length cap vs::R'))++[c]).map CO.base):=by rw [List.map_append,hbs];exact Ext.append _ _
 obtain⟨ao',cap',rfl,hcv⟩:=hcb;refine⟨_,he,⟨hH1.1,fun q v h=>he1 q v (hH1.2.1 q v h),?_,At.more hat⟩,⟨hE1.size,hE1.defers.mono (Frz.le.refl S) he1,fun t d h=>(hE1.slots t d h).mono (Frz.le.refl S) he1⟩⟩;rw [yE];refine HR.push ((hH1.2.2.1.mono (Frz.le.refl S) he1).set k ?_) ?_
 · refine .rws hA.own hA.len (by rw [hR'l,hA.rows]) hA.cells fun j x v c' h1 h2 h3=> ?_
   unfold rX;simp only
   by_cases hj:i.toNat=j
   · rw [if_pos hj]
     subst hj;rw [hcv (jh.1 h1).1] at h2;cases h2;refine⟨?_,_,_,_,rfl⟩
     rw [List.map_append,hlen,jy (by simp)]
     simp
   · rw [if_neg hj]
     have h4:=hA.bytes j x v c' h1 h2 (hR' j c' (fun e=>hj e.symm) h3);exact h4
 · have hel: ∀ b:Str,(bvs b).length=b.length * U.byte.size:=fun b=>by simp [bvs,U.size]
   refine Rel.row (u:=.byte) (l:=ownB u (alg.get l (dflt u) i)) (hel _) fun q x j p v h1 h2 h3=> ?_
   have hj:j=0:=by have:=(jh.1 h2).1;rw [yJ] at this;simp only [U.size] at this;omega
   subst hj
   have h2':P.int .u8 (alg.b2i x)=p:=by simpa [enc] using h2
   subst h2'
   have h3':(bvs (ownB u (alg.get l (dflt u) i)))[q]? =some v:=by simpa [U.size] using h3
   rw [bvs_getElem?,h1] at h3';cases h3';exact .int _ _
theorem XY: ∀ (ks:List Nat) {st:St} {K:List CO},Heap X st.hp S K w→Env S (K.map CO.base) st a→∃ K',K'.map CO.base=K.map CO.base∧Heap X (zew alg ks st).hp S K' w∧Env S (K'.map CO.base) (zew alg ks st) a
 |[],st,K,hH,hE=>⟨K,rfl,hH,hE⟩
 | k::ks,st,K,hH,hE=>by
   obtain⟨K1,h1,h2,h3⟩:=XZ hH hE k;obtain⟨K2,h4,h5,h6⟩:=XY ks h2 h3;exact⟨K2,h4.trans h1,h5,h6⟩
theorem zbz (hH:Heap X st.hp S K w) (hE:Env S (K.map CO.base) st a): ∃ K',K'.map CO.base=K.map CO.base∧Heap X (st.zex alg).hp S K' w∧Env S (K'.map CO.base) (st.zex alg) a:=by
 unfold St.zex
 split
 · exact⟨K,rfl,hH,hE⟩
 · exact XY _ hH hE
variable {dst:Option Tmp} {ty:TypeId} {pos:String} {af:Array Edge} {gd:Option (Nat × Bool)}
theorem At.zf1 {E size:Nat} {ao:Option Addr} {n cap:Nat} {xs:List Value} {L:List Chunk} (H:At w (rowC E size (.slice ao n cap) n xs::L)) {t:Nat} (hs:(Pr.info? t).map (·.size)=some 1) {j:Nat} (hj:j<xs.length) {v:Value} (hv:v.cells= #[v]) (h1:v.oneCell'=true):
  ∃ w',(Instr.storeAt t (.pointer (some (adr ao j))) v).run Pr w=.ok () w'∧∀ L',At w (rowC E size (.slice ao n cap) n xs::L')→At w' (rowC E size (.slice ao n cap) n (xs.set j v)::L'):=by
 obtain⟨A,hA⟩:=H.head
 obtain⟨hF,hl,⟨he,rfl⟩|⟨g,cap',cur,fz,he,hg,hfree,hnc,hcm,hcs,ht⟩⟩:=hA
 · simp at hl;subst hl;simp at hj
 cases he;have hle:=Nat.mul_le_mul_right size hnc
 have hjc:j<cur.size:=by omega
 have hrun:=sS (Pr:=Pr) (w:=w) (t:=t) (off:=j) (vs:=[v]) (by rw [hv]) (fun x hx=>by simp at hx;subst hx;exact h1) hs hg hfree (by simp only [je,jf];omega)
 refine⟨_,by simpa [adr,blk,ofs] using hrun,fun L' H=> ?_⟩
 have e1:layV cur.toList j [v]=cur.toList.set j v:=rfl;rw [e1]
 refine H.step fun A hA=>⟨A,⟨fun k=>by rw [hA.1 k],by simpa using hl,.inr ⟨g,cap,(cur.toList.set j v).toArray,fz,rfl,setRow_heap w g cur _ E fz hg,?_,hnc,hcm,?_,?_⟩⟩,fun _ h=>.inl h,(yU w g _).mono fun k hk e=>hk.2 ((hA.1 k).2 (by simp [Value.ownBlock,e]))⟩
 · simpa using hfree
 · simpa using hcs
 · rw [List.take_set,ht]
theorem zab (hT:T.fits Pr) (hH:Heap X st.hp S K w) (hE:Env S (K.map CO.base) st a) {t:Nat} {x y:Operand}:yX Pr X S K a w ⟨dst,.store t x y,ty,pos,af,gd⟩ (zc7 alg T st t x y):=by
 unfold zc7
 split
 case h_2=>exact lno
 rename_i e u k i off m he hc hcv
 split
 case h_2=>exact lno
 rename_i u' E Eb l i' m' Eb' b ho hm
 split
 case h_2=>exact lno
 rename_i o hus hown hes heb
 split
 case h_2=>exact lno
 rename_i hoff;have hus:=jH hus;have hes:=jH hes;have heb:=jH heb;have hoff:=jH hoff;subst hoff;subst heb;refine qf fun hsame=>qf fun hin=> ?_;rw [wU] at hsame;subst hsame;intro Q hQ;have hf:=Tab.get hT he;rw [yc] at ho hm;obtain⟨o,ao,cap,vs,R,hA⟩:=HR.rws (w:=w) hH.2.2.1 ho;have hoo:=hA.own;rw [hown] at hoo;cases hoo;obtain⟨c,hcm,hrel⟩:=hH.2.2.1.get hm;obtain⟨ao',cap',rfl⟩:=byteRow hrel
 have hkm:k≠m:=fun e=>by subst e;rw [ho] at hm;cases hm
 have hsit:=hH.sit hT hE;have hpt:=hsit.one hc;have hvl:=hsit.one hcv;generalize hx:a.eval x=xv at hpt;generalize hy:a.eval y=yv at hvl;obtain⟨aoq,nq,capq,hbq,hi0,rfl⟩:=hpt;rw [zS hA.at_] at hbq;simp only [CO.base,CO.zlG,jr,Value.slice.injEq] at hbq;obtain⟨rfl,rfl,rfl⟩:=hbq;have hyb:=hvl.1;rw [zS hcm] at hyb;simp only [CO.base,jr] at hyb;subst hyb;rw [vP,yh] at hin
 have hil:i.toNat<l.length:=by omega
 have hlt:=hA.cell hil;obtain⟨L0,hat0⟩:=hsit.cls.rws rfl hA.at_
 obtain⟨w',hrun,hstep⟩:=At.zf1 (Pr:=Pr) (t:=t) (v:=.slice ao' b.length cap') hat0 (by rw [TE.size' hf,hes]) hlt rfl rfl
 have hb1:(K.set k (.pack (.row E u'.size ao l.length cap (vs.set (i.toNat * u'.size+off) (.slice ao' b.length cap'))::R.set i.toNat (.row Eb' 1 ao' b.length cap' (bvs b))))).map CO.base=K.map CO.base:=yw hA.at_ rfl
 have hm1:(K.set k (.pack (.row E u'.size ao l.length cap (vs.set (i.toNat * u'.size+off) (.slice ao' b.length cap'))::R.set i.toNat (.row Eb' 1 ao' b.length cap' (bvs b)))))[m]? =some (.row Eb' 1 ao' b.length cap' (bvs b)):=by rw [List.getElem?_set_ne hkm];exact hcm
 have hbs:((K.set k (.pack (.row E u'.size ao l.length cap (vs.set (i.toNat * u'.size+off) (.slice ao' b.length cap'))::R.set i.toNat (.row Eb' 1 ao' b.length cap' (bvs b))))).set m (.gone (.slice ao' b.length cap'))).map CO.base=K.map CO.base:=(yw (c':=.gone (.slice ao' b.length cap')) hm1 rfl).trans hb1
 refine⟨undef,w',S,_,.bad,_,.inr ⟨?_,rfl⟩,Frz.le.refl S,by rw [hbs];exact Ext.refl _,⟨hH.1,by rw [hbs];exact hH.2.1,?_,?_⟩,by rw [hbs];exact⟨hE.size,hE.defers,hE.slots⟩,trivial,hQ⟩
 · rw [hus] at hx
   simp only [execOp,hx,hy,Sem.run_bind,hrun,Result.andThen_ok,Sem.run_pure]
 · rw [hbs]
   simp only [yE]
   refine(hH.2.2.1.set k (hA.put (i:=i) (vs':=vs.set (i.toNat * u'.size+off) (.slice ao' b.length cap')) (fun j hj=>zdX hj) (by simp) (fun q v hq h=> ?_) (fun _=> ?_) _)).set m .gone
   · rwa [List.getElem?_set_ne (fun e=>hq e.symm)] at h
   · rw [List.getElem?_set_self hlt]
 · have key: ∀ L,At w ((CO.pack (.row E u'.size ao l.length cap vs::R)).chunk::(CO.row Eb' 1 ao' b.length cap' (bvs b)).chunk::L)→
     At w' ((CO.pack (.row E u'.size ao l.length cap (vs.set (i.toNat * u'.size+off) (.slice ao' b.length cap'))::R.set i.toNat (.row Eb' 1 ao' b.length cap' (bvs b)))).chunk::(CO.gone (.slice ao' b.length cap')).chunk::L):=fun L hL=>by
    have h1:=hstep _ (At.TF hL)
    have h2:At w' (CO.zl R++(CO.row Eb' 1 ao' b.length cap' (bvs b)).chunk::((CO.row E u'.size ao l.length cap (vs.set (i.toNat * u'.size+off) (.slice ao' b.length cap'))).chunk::L)):=by
     refine h1.perm ?_;refine List.perm_middle.symm.trans ?_;exact List.Perm.append_left _ (List.Perm.swap _ _ _)
    have h3:=At.swapRow i.toNat h2;have h4:=h3.perm List.perm_middle;exact(At.void (At.UO h4)).swap
   exact At.zlM hH.2.2.2 hA.at_ hcm hkm _ _ key
theorem At.zgS {L:List Chunk} (E:Nat): ∀ n:Nat,At w L→At w (CO.zl (List.replicate n (.row E 1 none 0 0 []))++L)
 |0,H=>H
 | n+1,H=>by
   rw [List.replicate_succ];exact(At.zgS E n H).nilRow E 1
theorem zb9 (hT:T.fits Pr) (hH:Heap X st.hp S K w) (hE:Env S (K.map CO.base) st a) {t:Nat} {x y:Operand}:yX Pr X S K a w ⟨dst,.makeSlice t x y,ty,pos,af,gd⟩ (zjk alg T st t x y):=by
 unfold zjk
 split
 case h_2=>exact lno
 rename_i E e1 e2 e3 n m he hn hm
 split
 case h_2=>exact lno
 rename_i Eb sz by_ e4 hee
 split
 case h_2=>exact lno
 rename_i hs1 hby;have hs1:=jH hs1;have hby:=Nat.le_of_ble_eq_true hby;subst hs1;obtain⟨k1,hx⟩:=(hH.sit hT hE).int hn;obtain⟨k2,hy⟩:=(hH.sit hT hE).int hm;have hf:=Tab.get hT he;obtain⟨ds,it,hut,hit,htyt,-⟩:=TE.und hf;have:=yu htyt;subst this;obtain⟨_,ie,_,hie,_,hsz,hbytes⟩:=TE.und (Tab.get hT hee);obtain⟨ie',zv,hie',hzv,hzf,hzl⟩:=TE.zero' (Tab.get hT hee) rfl;rw [hie] at hie';cases hie';refine qf fun hnm=>qf fun h0=>qf fun hfew=> ?_;rw [wU] at hnm;subst hnm;rw [ZT] at h0;rw [tJ] at hfew
 have hzc1:zv.cells= #[.slice none 0 0]:=by
  apply Array.ext';exact zkp hzf
 obtain⟨nn,hnn⟩: ∃ nn:Nat,n=nn:=⟨n.toNat,by omega⟩
 subst hnn;simp only at hsz hbytes
 have hbd:(ie.bytes:Int) * nn≤1000 * 1000000:=Int.mul_le_mul (by omega) hfew (by omega) (by omega)
 have hr:=run_make (P:=Pr) w t E ie zv hut hie hzv k1 k2 nn nn (by omega) (Int.le_refl _) (by omega) (by omega)
 rw [show ie.size=1 by omega,Nat.mul_one,hzc1] at hr
 simp only [jI] at hr
 have hrep:(madeCells #[.slice none 0 0] nn)=(List.replicate nn (.slice none 0 0:Value)).toArray:=by rw [← vU]
 rw [hrep] at hr
 have hln:(List.replicate nn ([]:Str)).length=nn:=by simp
 refine wZ (v:=.slice (some ⟨w.heap.size,0,none⟩) nn nn) (w':=w.alloc (.cells (List.replicate nn (.slice none 0 0:Value)).toArray E)) (co:=.pack (.row E 1 (some ⟨w.heap.size,0,none⟩) nn nn (List.replicate nn (.slice none 0 0))::List.replicate nn (.row Eb 1 none 0 0 []))) hH hE (.inl ?_) (fun L hL=> ?_) ?_ ?_
 · simp only [execOp,hx,hy,Sem.run_bind,hr,Result.andThen_ok,Sem.run_pure]
 · have h1:=(At.zgS Eb nn hL).Zp E 1 nn (List.replicate nn (.slice none 0 0:Value)).toArray (0,0) (by simp) (by unfold maxLen;omega) (xA _)
   exact At.UO (by simpa [CO.chunk] using h1)
 · rw [XC,jI]
   have hR:=Rel.rws (S:=S) (bs:=((K++[CO.pack (.row E 1 (some ⟨w.heap.size,0,none⟩) nn nn (List.replicate nn (.slice none 0 0))::List.replicate nn (.row Eb 1 none 0 0 []))]).map CO.base)) (u:=.bytes) (E:=E) (Eb:=Eb) (o:=0) (l:=List.replicate nn ([]:Str)) (h:=none) (ao:=some ⟨w.heap.size,0,none⟩) (cap:=nn) (vs:=List.replicate nn (.slice none 0 0)) (R:=List.replicate nn (.row Eb 1 none 0 0 [])) rfl (by simp [U.size]) (by simp)
    (fun i x j p v h1 h2 h3 h4=>by
     have:j<1:=by have:=(jh.1 h2).1;rw [yJ] at this;exact this
     omega)
    (fun i x v c h1 h2 h3=>by
     have hx:=List.eq_of_mem_replicate (List.mem_of_getElem? h1);have hv:=List.eq_of_mem_replicate (List.mem_of_getElem? h2);have hc:=List.eq_of_mem_replicate (List.mem_of_getElem? h3);subst hx;subst hv;subst hc
     exact⟨none,0,rfl,rfl⟩)
   rw [hln] at hR;exact hR
 · rw [hH.2.2.1.1]
   exact⟨yO _ _,_,_,_,rfl⟩
theorem QT (hT:T.fits Pr) (hH:Heap X st.hp S K w) (hE:Env S (K.map CO.base) st a) {t ut:Nat} {s x:Operand}:
  yX Pr X S K a w ⟨dst,.call { callee:=.builtin .append,args:= #[s,x],argTypes:= #[t,ut]},ty,pos,af,gd⟩ (zcL alg T st t ut s x):=by
 unfold zcL
 split
 case h_2=>exact lno
 rename_i E n1 n2 z ue k cx hte hue hcs hcx
 split
 · exact lno
 · exact lno
 rename_i hni hno
 split
 case h_2=>exact lno
 rename_i ee p E' Eb l hee hm ho
 split
 case h_2=>exact lno
 rename_i zz hby hez hb;have hb:=jH hb;subst hb;have hby:=Nat.le_of_ble_eq_true hby;have hms:=(hH.sit hT hE).one hcs;have hmx:=(hH.sit hT hE).one hcx;generalize hxv:a.eval x=xv at hmx;generalize hsv:a.eval s=sv at hms;obtain⟨us,hsrc,helt⟩:=ZA hT hH hE hm hmx;refine qf fun hp0=>lfew fun h0=> ?_;rw [wU,yh] at hp0
 have hp0:Prt.bytes p=[]:=List.eq_nil_of_length_eq_zero (by omega)
 rw [vF,yh] at h0;rw [yc] at ho;obtain⟨o,ao0,cap0,vs,R,hA⟩:=HR.rws (w:=w) hH.2.2.1 ho
 have ho3:o=3:=by have:=hA.own;cases this;rfl
 subst ho3;have hk:=hA.at_;have hv:=hms.1;rw [zS hk] at hv;cases hv;obtain⟨q,r,hp1,hp2,hfront⟩:=uD hk hH.2.2.2;have hfront:=At.TF hfront;obtain⟨ao,cap,w',hd,hW⟩:=ZR (u:=.prt) (l:=l) (dst:=dst) (ty:=ty) (pos:=pos) (af:=af) (gd:=gd) (S:=S) hT hte hue (fun k h=>hni k h) (fun h=>hno h) hee hby hez hsv hxv hfront hsrc helt h0;intro Q hq;have hsz:U.prt.size=U.prw.size:=rfl;rw [hsz] at hW;have hbs:(K.set k (.gone (.slice ao0 l.length cap0))).map CO.base=K.map CO.base:=yw hk rfl;have hab:(l++[p]:List Prt)=alg.app (α:=Prt) l [p]:=rfl;obtain⟨l2,hl2⟩: ∃ l2:List Prt,l2=l++[p]:=⟨_,rfl⟩;have hco: ∃ co,co=CO.pack (.row E U.prw.size ao l2.length cap (vs++us)::(R++[.row Eb 1 none 0 0 []])):=⟨_,rfl⟩;obtain⟨co,hco⟩:=hco
 have he:Ext (K.map CO.base) ((K.set k (.gone (.slice ao0 l.length cap0))++[co]).map CO.base):=by rw [List.map_append,hbs];exact Ext.append _ _
 refine⟨_,w',S,K.set k (.gone (.slice ao0 l.length cap0))++[co],.v (.one (.row st.hp.length)),{ st with hp:=setN st.hp k .gone++[.rws .prw E Eb (l++[p]:List Prt) none]},hd,Frz.le.refl S,he,⟨hH.1,fun k v h=>he k v (hH.2.1 k v h),?_,?_⟩,⟨hE.size,hE.defers.mono (Frz.le.refl S) he,fun t d h=>(hE.slots t d h).mono (Frz.le.refl S) he⟩,?_,hq⟩
 · simp only
   rw [yE];refine((hH.2.2.1.set k .gone).mono (Frz.le.refl S) he).push ?_;subst hco;have hvl:vs.length=l.length * 4:=hA.len;have hul:us.length=1 * 4:=helt.1
   have hnth: ∀ (i:Nat) (x:Prt),(l++[p]:List Prt)[i]? =some x→(i<l.length∧l[i]? =some x)∨(i=l.length∧x=p):=fun i x h=>by
    rcases Nat.lt_trichotomy i l.length with h1|h1|h1
    · rw [jw h1] at h;exact .inl ⟨h1,h⟩
    · subst h1
      rw [jy (jK _)] at h
      simp at h;exact .inr ⟨rfl,h.symm⟩
    · have:=(jh.1 h).1
      rw [jg,jm] at this;omega
   rw [hl2]
   refine Rel.rws (u:=.prw) (o:=3) (l:=(l++[p]:List Prt)) rfl (by show(vs++us).length=(l++[p]).length * 4;rw [jg,jg,hvl,hul,jm];omega) (by show(R++_).length=(l++[p]).length;rw [jg,jg,hA.rows];rfl) (fun i x j p' v h1 h2 h3 h4=> ?_) fun i x v c h1 h2 h3=> ?_
   · have hj:j<4:=by have:=(jh.1 h2).1;rw [yJ] at this;exact this
     rcases hnth i x h1 with⟨k1,k2⟩|⟨k1,k2⟩
     · refine hA.cells i x j p' v k2 h2 h3 ?_
       rw [jw (by show i * 4+j<vs.length;omega)] at h4
       exact h4
     · subst k1;subst k2
       rw [jy (by show vs.length≤l.length * 4+j;omega)] at h4
       have h5:(enc alg .prt x)[j]? =some p':=by
        rcases j with _|_|_|_|j
        · exact h2
        · exact h2
        · exact h2
        · exact absurd rfl h3
        · omega
       refine helt.2 0 x j p' v rfl h5 ?_;rw [← h4]
       congr 1
       show 0 * 4+j=l.length * 4+j - vs.length
       omega
   · rcases hnth i x h1 with⟨k1,k2⟩|⟨k1,k2⟩
     · rw [jw (by show i * 4+3<vs.length;omega)] at h2
       rw [jw (by rw [hA.rows];exact k1)] at h3
       exact(hA.bytes i x v c k2 h2 h3).mono he
     · subst k1;subst k2
       rw [jy (by show vs.length≤l.length * 4+3;omega)] at h2
       rw [jy (by rw [hA.rows];exact jK _),hA.rows] at h3
       simp at h3
       subst h3
       have h6:MP S (.nl (Prt.bytes x)) v:=by
        refine helt.2 0 x 3 _ v rfl rfl ?_;rw [← h2]
        congr 1
        show 0 * 4+3=l.length * 4+3 - vs.length
        omega
       have h7:v=.slice none 0 0:=by
        rw [hp0] at h6
        cases h6 with
        |nl _ _ a1 a2=>exact a1 rfl
       show OwnC _ Eb none (ownB .prw x) _ v
       have h8:ownB .prw x=[]:=hp0;rw [h8];exact⟨none,0,rfl,h7⟩
 · refine At.more ?_
   rw [hp2,zA];subst hco;rw [hl2];have h5:=hW.nilRow Eb 1
   have h6:At w' ((CO.row E U.prw.size ao (l++[p]:List Prt).length cap (vs++us)).chunk::(CO.zl (R++[.row Eb 1 none 0 0 []])++(frzC S::((CO.zl q++CO.zl r)++X.fr)))):=by
    rw [zA,jk];exact h5.perm ((List.Perm.swap _ _ _).trans (List.perm_middle.symm.cons _))
   have h7:=At.UO h6
   have h8:At w' (frzC S::((CO.zl q++CO.chunk (CO.gone (.slice ao0 l.length cap0))::CO.zl r)++(CO.pack (.row E U.prw.size ao (l++[p]:List Prt).length cap (vs++us)::(R++[.row Eb 1 none 0 0 []]))).chunk::X.fr)):=by
    refine(At.void ?_).perm (zK _ _ _ _ _).symm;refine h7.perm ?_;exact yQ _ _ _ _
   refine h8.perm ?_;exact(yQ _ _ _ _).symm
 · show MC S _ (.row st.hp.length) _
   have:st.hp.length=(K.set k (.gone (.slice ao0 l.length cap0))).length:=by rw [hH.2.2.1.1];simp
   rw [this];subst hco;rw [hl2];exact⟨yO _ _,_,_,_,rfl⟩
end
end Go.Ab
namespace Go.Ab
open Go Go.Sep
variable [Facts]
def UE:List C→List Nat
 |[]=>[]
 |.fn _ caps::cs=>Uw caps++UE cs
 |.ptr k _::cs=>k::UE cs
 |.row k::cs=>k::UE cs
 |.sub _ k _ _::cs=>k::UE cs
 |.ept _ k _ _::cs=>k::UE cs
 |_::cs=>UE cs
def zlS:V0→List Nat
 |.one c=>UE [c]
 |.agg cs=>UE cs
def zj4:List V0→List Nat
 |[]=>[]
 |v::vs=>zlS v++zj4 vs
def ziY:D→List Nat
 |.v x=>zlS x
 |.tup l=>zj4 l
 |.bad=>[]
def zgf:List (Nat × D)→List Nat
 |[]=>[]
 |(_,d)::r=>ziY d++zgf r
def upto:Nat→Nat→List Nat
 |_,0=>[]
 |n,m+1=>n::upto (n+1) m
inductive AOut where
 |ret (d:D)
 |pan (c:C)
inductive AEx where
 |normal
 |exit (id:Nat)
 |ret
 |pan (c:C)
def MDs (S:Frz) (bs:List Value):List D→List Value→Prop
 |[],[]=>True
 |d::ds,v::vs=>MD S bs d v∧MDs S bs ds vs
 |_,_=>False
def EOut (S:Frz) (bs:List Value):AOut→Ending→Prop
 |.ret d,.returned v=>MD S bs d v
 |.pan c,.panicked ch=>∃ v,ch=[{ v:=v,recovered:=false}]∧MC S bs c v
 |_,_=>False
def Spc (Pr:Program) (f:Nat) (args:List D) (hp:List HO) (out:AOut) (hp':List HO):Prop:=
 (∃ fn,Pr.funcs[f]? =some fn∧(fn.name == "runtime.NumGoroutine")=false∧fn.body.isNone=false)∧
 ∀ (S:Frz) (K:List CO) (fr:List Chunk) (w:World) (vs:List Value),HR S (K.map CO.base) hp K→MDs S (K.map CO.base) args vs→At w (frzC S::(CO.zl K++fr))→
   Calls Pr f vs.toArray w fun e w'=>∃ S' K',S.le S'∧Ext (K.map CO.base) (K'.map CO.base)∧HR S' (K'.map CO.base) hp' K'∧At w' (frzC S'::(CO.zl K'++fr))∧EOut S' (K'.map CO.base) out e
inductive Tree where
 |need (p:Prop) (t:Tree)
 |br (b:Bool) (t f:Tree)
 |call (f:Nat) (args:List D) (hp:List HO) (k:AOut→List HO→Tree)
 |code (c:Code) (st:St) (k:AEx→St→Tree)
 |fin (o:AOut) (hp:List HO)
 |both (t f:Tree)
 |qed
 |stop (why:Nat)
def EM (S:Frz) (bs:List Value):Exit→AEx→Prop
 |.normal,.normal=>True
 |.exit i,.exit j=>i=j
 |.ret,.ret=>True
 |.panic ch,.pan c=>∃ v,ch=[{ v:=v,recovered:=false}]∧MC S bs c v
 |_,_=>False
def Post (X:Ctx) (R:AEx→St→Prop):Exit→Act→World→Prop:=fun e a w=>
 ∃ e' st',R e' st'∧∃ S K,Heap X st'.hp S K w∧Env S (K.map CO.base) st' a∧EM S (K.map CO.base) e e'
def Tree.ok (Pr:Program) (X:Ctx) (G:AOut→List HO→Prop):Tree→Prop
 |.need p t=>p∧t.ok Pr X G
 |.br b t f=>(b=true→t.ok Pr X G)∧(b=false→f.ok Pr X G)
 |.call f args hp k=>∃ out hp',Spc Pr f args hp out hp'∧(k out hp').ok Pr X G
 |.code c st k=>∀ S K a w,Heap X st.hp S K w→Env S (K.map CO.base) st a→c.wp Pr (Post X fun e st'=>(k e st').ok Pr X G) a w
 |.fin o hp=>G o hp
 |.both t f=>t.ok Pr X G∧f.ok Pr X G
 |.qed=>True
 |.stop _=>False
def QR.tree:QR→(D→Tree)→Tree
 |.ok d,k=>k d
 |.need p r,k=>.need p (r.tree k)
 |.br b t f,k=>.br b (t.tree k) (f.tree k)
 |.both t f,k=>.both (t.tree k) (f.tree k)
 |.no,_=>.stop 0
def LR.tree:LR→(D→St→Tree)→Tree
 |.ok d st,k=>k d st
 |.need p r,k=>.need p (r.tree k)
 |.no,_=>.stop 1
def tt:D:=.v (.one (.p (.val (.bool true))))
def ff:D:=.v (.one (.p (.val (.bool false))))
def resolve (st:St) (x:Operand) (k:St→Tree):Tree:=
 match x with
 | .tmp t=>match look st.env t with
   |some (.v (.one (.p (.bool b))))=>.br b (k (st.put (some t) tt)) (k (st.put (some t) ff))
   |_=>k st
 |_=>k st
def tq (st:St) (x:Operand):St:=
 match oneC (st.eval x) with
 | some (.ptr k _)=>match nth st.hp k with
   |some (.pack _)=>st.ze5 k
   |some (.abs _)=>st.ze5 k
   |_=>st
 |_=>st
def ze4 (I:Alg) (st:St) (x:Operand):St:=
 match oneC (st.eval x) with
 | some (.ept _ k i _)=>(match nth st.hp k with
   |some (.rws _ _ _ _ _)=>st.zjd I k i
   |_=>st)
 |_=>tq st x
def zmT (st:St) (x:Operand):Bool:=
 match oneC (st.eval x) with
 | some (.ept _ k _ _)=>(match nth st.hp k with
   |some (.rws _ _ _ _ _)=>true
   |_=>false)
 |_=>false
structure Cfg where
 fz:List Nat:=[]
 own:List Nat:=[]
 nils:List Nat:=[]
 bare:List Nat:=[]
 lend:List Nat:=[]
 flat:Bool:=false
 asis:Bool:=false
 asisF:List Nat:=[]
 sl:List SlE:=[]
 raw:Bool:=false
 rl:List Nat:=[]
 nr:List Nat:=[]
 keep:Option (List Nat):=none
 mv:List Nat:=[]
 fork:List Nat:=[]
 cut:List Nat:=[]
 seam:List Nat:=[]
 wrp:Bool:=false
 arr:List Nat:=[]
 inn:List Nat:=[]
 rw_:List Nat:=[]
 rn:List Nat:=[]
 rb:Nat:=0
def Tz (ks:List Nat):List (Nat × D)→List (Nat × D)
 |[]=>[]
 |(t,d)::r=>match memN t ks with|true=>(t,d)::Tz ks r|false=>Tz ks r
def St.tidy (ks:Option (List Nat)) (st:St):St:=
 match ks with
 |none=>st
 |some l=> { st with env:=Tz l st.env}
def zgi:D→List Nat
 |.v (.one (.ptr k _))=>[k]
 |.v (.one (.fn _ caps))=>Uw caps
 |_=>[]
def shutAll (sl:List SlE):List Nat→St→St
 |[],st=>st
 |k::ks,st=>shutAll sl ks (st.shut sl k)
def zgO:D→D
 |.v (.one c)=>.v (.one (Qd c))
 |.v (.agg cs)=>.v (.agg (cs.map Qd))
 |d=>d
def Uj (st:St):List Operand→Option (List D)
 |[]=>some []
 |x::xs=>match st.eval x,Uj st xs with|some d,some ds=>some (zgO d::ds)|_,_=>none
def mixC (z:P) (c:C):Option C:=match purC z c with|some p=>some (.p p)|none=>match c with|.row k=>some (.row k)|.sub u k lo hi=>some (.sub u k lo hi)|_=>none
def zdK:List P→List C→Option (List C)
 |[],[]=>some []
 |z::zs,c::cs=>match mixC z c,zdK zs cs with|some d,some ds=>some (d::ds)|_,_=>none
 |_,_=>none
def Zz (T:Tab) (own:Option Bool):List D→List Nat→List HO→Option (List D × List HO)
 |[],_,hp=>some ([],hp)
 | d ::ds,ty::tys,hp=>match d with
   | .v (.one .nilS)=>(match own with
     |none=>(match Zz T own ds tys hp with|some (r,hp')=>some (.v (.one .nilS)::r,hp')|none=>none)
     | some ow=>(match T ty with
       | some ⟨.slice E,_,_,_,some u⟩=>(match ow with
         |true=>(match Zz T own ds tys (hp++[.row u E []]) with|some (r,hp')=>some (.v (.one (.row hp.length))::r,hp')|none=>none)
         |false=>(match Zz T own ds tys hp with|some (r,hp')=>some (.v (.one (.p (.list u [])))::r,hp')|none=>none))
       |_=>none))
   |.v (.one (.p (.nl l)))=>(match Zz T own ds tys hp with|some (r,hp')=>some (.v (.one (.p (.list .byte l)))::r,hp')|none=>none)
   | .v (.agg cs)=>(match T ty with
     |some ⟨_,_,_,some z,_⟩=>(match zdK z cs,Zz T own ds tys hp with|some ps,some (r,hp')=>some (.v (.agg ps)::r,hp')|_,_=>none)
     |_=>none)
   |d=>(match Zz T own ds tys hp with|some (r,hp')=>some (d::r,hp')|none=>none)
 |_::_,[],_=>none
def zeX:D→List Nat
 |.v (.one c)=>Vt [c]
 |.v (.agg cs)=>Vt cs
 |_=>[]
def Cap.cell:Cap→C
 |.p x=>.p x
 |.ptr k off=>.ptr k off
def dP (c:Cap):D:=.v (.one c.cell)
def ziD:D→List Nat
 |.v (.agg cs)=>Vt cs
 |_=>[]
def za1 (I:Alg) (cfg:Cfg) (g:Nat) (ds:List D) (st:St):St:=match memN g cfg.fz with|true=>y7 I (ds.flatMap zeX) st|false=>match memN g cfg.lend with|true=>st|false=>y7 I (ds.flatMap ziD) st
def Cfg.fsl (cfg:Cfg):List SlE:=match cfg.flat with|true=>zlT|false=>match cfg.asis with|true=>zkb|false=>cfg.sl
def zeA (cfg:Cfg) (g:Nat):List SlE:=match memN g cfg.bare with|true=>zlT|false=>match memN g cfg.asisF with|true=>zkb|false=>cfg.sl
def zlA (I:Alg) (T:Tab) (cfg:Cfg) (kp:C→St→Tree) (o:Oper) (f:Operand) (xs:List Operand) (tys:List Nat) (st:St) (k:St→Tree):Tree:=
 match st.eval f,Uj st xs with
 | some (.v (.one (.fn g caps))),some ds=>
   let st2:=shutAll (zeA cfg g) ((ds++[D.v (.one (.fn g caps))]).flatMap zgi) (za1 I cfg g ds st)
   match Uj st2 xs,st2.eval f with
   | some ds2,some (.v (.one (.fn g2 caps2)))=>(match Zz T (match memN g cfg.nils with|true=>none|false=>some (memN g cfg.own)) ds2 tys st2.hp with
     | some (ds3,hp3)=>.call g2 (ds3++caps2.map dP) hp3 fun out hp'=>match out with
       |.ret d=>k ({ st2 with hp:=hp'}.put o.dst d)
       |.pan c=>kp c { st2 with hp:=hp'}
     |none=>.stop 20)
   |_,_=>.stop 2
 |_,_=>.stop 3
def Vk (T:Tab) (t ty:Nat) (st:St):St:=
 match look st.env t,T ty with
 |some (.v (.one .nilS)),some ⟨.slice E,_,_,_,some u⟩=>St.put { st with hp:=st.hp++[HO.row u E []]} (some t) (.v (.one (.row st.hp.length)))
 |_,_=>st
def nilRow (T:Tab) (nr:List Nat) (o:Oper) (st:St):St:=
 match o.dst with
 |some t=>(match memN t nr with|true=>Vk T t o.type st|false=>st)
 |none=>st
def QB (I:Alg) (cut:List Nat) (x:Option Nat) (st:St) (k:St→Tree):Tree:=
 match x with
 |none=>k st
 | some t=>match memN t cut with
   |false=>k st
   | true=>match look st.env t with
     | some (.v (.one (.sub u j lo hi)))=>(match nth st.hp j with
       | some (.row u' E l)=>(match zfA u u' l with
         |some l'=>.need (I.same lo 0) (k (St.put { st with hp:=setN st.hp j .gone++[.row u E (I.cut l' 0 hi)]} (some t) (.v (.one (.row st.hp.length)))))
         |none=>.stop 70)
       |_=>.stop 71)
     |_=>k st
def zmL:Operand→Option Nat
 |.tmp t=>some t
 |_=>none
def zez (st:St):List Operand→Option (List Cap)
 |[]=>some []
 |x::xs=>match oneC (st.eval x),zez st xs with|some (.p p),some ps=>some (.p p::ps)|some (.ptr k off),some ps=>some (.ptr k off::ps)|_,_=>none
def ziL (I:Alg) (st:St) (x y:Operand):QR:=
 match oneC (st.eval x),oneC (st.eval y) with
 |some (.p (.int k a)),some (.p (.int k' b))=>(match zaL k k' with|true=>okp (.int k (I.wrap k (I.add a b)))|false=>.no)
 |_,_=>.no
def zdW (cfg:Cfg) (t k:Nat) (st:St):St:=match memN t cfg.inn with|true=>shutAll cfg.sl [k] st|false=>st
def vop (I:Alg) (T:Tab) (cfg:Cfg) (kp:C→St→Tree) (o:Oper) (st:St) (k:St→Tree):Tree:=
 match o.op with
 |.pick c a b=>resolve st c fun st=>(qop I T st (.pick c a b)).tree fun d=>k (st.put o.dst d)
 |.load t x=>(qop I T (ze4 I st x) (.load t x)).tree fun d=>k ((ze4 I st x).put o.dst d)
 |.assign x=>(qop I T st (.assign x)).tree fun d=>QB I cfg.cut o.dst (nilRow T cfg.nr o (zgR T cfg.rn cfg.rb o (st.put o.dst d))) k
 | .store t x v=>match zmT st x with
   |true=>(zc7 I T st t x v).tree fun _ st'=>k (st'.put o.dst (.tup []))
   |false=>QB I cfg.cut (zmL v) (tq st x) fun st1=>(lop I T st1 (.store t x v)).tree fun _ st'=>k (st'.put o.dst (.tup []))
 | .alloc t=>match memN t cfg.arr with
   |true=>(arrL I T st t).tree fun d st'=>k (st'.put o.dst d)
   |false=>(lop I T st (.alloc t)).tree fun d st'=>k (st'.put o.dst d)
 |.box t x=>(lop I T st (.box t x)).tree fun d st'=>k (zdW cfg t st.hp.length (st'.put o.dst d))
 |.buildSlice t n ps=>(lop I T st (.buildSlice t n ps)).tree fun d st'=>k (st'.put o.dst d)
 | .makeSlice t x y=>match memN t cfg.rw_ with
   |true=>(zjk I T st t x y).tree fun d st'=>k (st'.put o.dst d)
   |false=>(lop I T st (.makeSlice t x y)).tree fun d st'=>k (st'.put o.dst d)
 | .convert s d x=>match T d with
   |some ⟨.slice _,_,_,_,_⟩=>(lop I T st (.convert s d x)).tree fun d st'=>k (st'.put o.dst d)
   |_=>(qop I T st (.convert s d x)).tree fun d=>k (st.put o.dst d)
 | .makeFunc fn first captured=>match fn,first.toList,zez st captured.toList with
   |.func f,[],some ps=>k (st.put o.dst (.v (.one (.fn f ps))))
   |_,_,_=>.stop 4
 | .panic x=>match oneC (st.eval x) with
   |some (.ifc t b ps)=>kp (.ifc t b ps) st
   |_=>.stop 5
 | .call c=>match c.callee with
   | .builtin .append=>(match(match o.dst with|some t=>memN t cfg.fork|none=>false) with
     |false=>(appI I T st c).tree fun d st'=>k (st'.put o.dst d)
     | true=>(match c.args.toList,c.argTypes.toList with
       | [s,x],[t,u]=>(match zjA I T st t u s x with
         |some (p,stA,stB)=>.need p (.both (k (stA.put o.dst (.v (.one (.row st.hp.length))))) (k (stB.put o.dst (.v (.one (.row st.hp.length))))))
         |none=>.stop 60)
       |_,_=>.stop 61))
   |.builtin .clear=>(lop I T st (.call c)).tree fun d st'=>k (st'.put o.dst d)
   |.builtin _=>(qop I T st (.call c)).tree fun d=>k (st.put o.dst d)
   |.value f=>zlA I T cfg kp o f c.args.toList c.argTypes.toList st k
   |.invoke _ _=>.stop 6
 | .binOp .add t x y yt=>match cfg.wrp with
   |true=>(ziL I st x y).tree fun d=>k (st.put o.dst d)
   |false=>(qop I T st (.binOp .add t x y yt)).tree fun d=>k (st.put o.dst d)
 |op=>(qop I T st op).tree fun d=>k (st.put o.dst d)
def zcx:Op→Option Operand
 |.defer c=>match c.callee,c.args.toList with|.value f,[]=>some f|_,_=>none
 |_=>none
def zia (o:Oper) (f:Operand) (st:St) (k:St→Tree):Tree:=
 match o.dst,st.df,st.eval f with
 |none,none,some (.v (.one (.fn g caps)))=>k { st with df:=some (g,caps)}
 |_,_,_=>.stop 80
def TK (all:List Oper) (o:Oper) (st:St) (kt kf:St→Tree):Tree:=
 match o.guard with
 |none=>kt st
 | some (j,want)=>match nth all j with
   |none=>.stop 7
   | some oj=>match oj.dst with
     |none=>.stop 8
     | some t=>resolve st (.tmp t) fun st=>match look st.env t with
       |some (.v (.one (.p (.val (.bool true)))))=>(match want with|true=>kt st|false=>kf st)
       |some (.v (.one (.p (.val (.bool false)))))=>(match want with|true=>kf st|false=>kt st)
       |some (.tup [])=>kf st
       |_=>.stop 9
def zd4 {α:Type} (c:C) (k:C→α):α:=match c with
 | .p x=>(match x with
   |.int a b=>k (.p (.int a b))
   |.bool b=>k (.p (.bool b))
   |.str l=>k (.p (.str l))
   |.list u l=>k (.p (.list u l))
   |.nl l=>k (.p (.nl l))
   |.val v=>k (.p (.val v)))
 |.ptr j off=>k (.ptr j off)
 |.ept u j i off=>k (.ept u j i off)
 |.fpt u l i off=>k (.fpt u l i off)
 |.row j=>k (.row j)
 |.sub u j lo hi=>k (.sub u j lo hi)
 |.nilS=>k .nilS
 |.fn f caps=>k (.fn f caps)
 |.ifc T agg cs=>k (.ifc T agg cs)
 |.any=>k .any
def Xr {α:Type}:List C→(List C→α)→α
 |[],k=>k []
 |c::cs,k=>zd4 c fun c=>Xr cs fun cs=>k (c::cs)
def zkh {α:Type} (o:HO) (k:HO→α):α:=match o with
 |.obj t cs=>Xr cs fun cs=>k (.obj t cs)
 |.row u E l=>k (.row u E l)
 |.pack l=>k (.pack l)
 |.abs g=>k (.abs g)
 |.rws u E Eb l h=>(match h with|none=>k (.rws u E Eb l none)|some (i,m)=>k (.rws u E Eb l (some (i,m))))
 |.gone=>k .gone
def TV {α:Type}:List HO→(List HO→α)→α
 |[],k=>k []
 |o::os,k=>zkh o fun o=>TV os fun os=>k (o::os)
theorem V6 {α:Type} (c:C) (k:C→α):zd4 c k=k c:=by
 cases c with
 |p x=>cases x<;>rfl
 |_=>rfl
theorem Ze {α:Type}: ∀ (l:List C) (k:List C→α),Xr l k=k l
 |[],_=>rfl
 |c::cs,k=>by rw [Xr,V6,Ze cs]
theorem zhu {α:Type} (o:HO) (k:HO→α):zkh o k=k o:=by
 cases o with
 |obj t cs=>exact Ze cs _
 |rws u E Eb l h=>cases h<;>rfl
 |_=>rfl
theorem V4 {α:Type}: ∀ (l:List HO) (k:List HO→α),TV l k=k l
 |[],_=>rfl
 |o::os,k=>by rw [TV,zhu,V4 os]
def zd1 {α:Type} (x:V0) (k:V0→α):α:=match x with
 |.one c=>zd4 c fun c=>k (.one c)
 |.agg cs=>Xr cs fun cs=>k (.agg cs)
def Qj {α:Type}:List V0→(List V0→α)→α
 |[],k=>k []
 |x::l,k=>zd1 x fun x=>Qj l fun l=>k (x::l)
theorem za4 {α:Type} (x:V0) (k:V0→α):zd1 x k=k x:=by
 cases x<;>simp only [zd1,V6,Ze]
theorem TQ {α:Type}: ∀ (l:List V0) (k:List V0→α),Qj l k=k l
 |[],_=>rfl
 |x::l,k=>by rw [Qj,za4,TQ l]
def zd3 {α:Type} (d:D) (k:D→α):α:=match d with
 |.v x=>zd1 x fun x=>k (.v x)
 |.tup l=>Qj l fun l=>k (.tup l)
 |.bad=>k .bad
def za7 {α:Type}:List (Nat × D)→(List (Nat × D)→α)→α
 |[],k=>k []
 |(t,d)::r,k=>zd3 d fun d=>za7 r fun r=>k ((t,d)::r)
def TS {α:Type} (n:Nat) (k:Nat→α):α:=match n with
 |0=>k 0
 |m+1=>k (m+1)
def qE {α:Type} (st:St) (k:St→α):α:=za7 st.env fun e=>TV st.hp fun h=>TS st.n fun n=>match st.df with|none=>k ⟨e,h,n,none⟩|some (g,cs)=>k ⟨e,h,n,some (g,cs)⟩
theorem za8 {α:Type} (d:D) (k:D→α):zd3 d k=k d:=by
 cases d<;>simp only [zd3,za4,TQ]
theorem V5 {α:Type}: ∀ (l:List (Nat × D)) (k:List (Nat × D)→α),za7 l k=k l
 |[],_=>rfl
 |(t,d)::r,k=>by rw [za7,za8,V5 r]
theorem Zd {α:Type} (st:St) (k:St→α):qE st k=k st:=by
 unfold qE;rw [V5,V4];unfold TS;obtain⟨e,h,n,df⟩:=st
 cases n<;>(cases df<;>rfl)
def vops (I:Alg) (T:Tab) (cfg:Cfg) (all:List Oper) (kp:C→St→Tree) (k:St→Tree):List Oper→St→Tree
 |[],st=>k st
 |o::r,st=>qE st fun st=>TK all o st (fun st=>match zcx o.op with|some f=>zia o f st fun st=>vops I T cfg all kp k r st|none=>vop I T cfg kp o st fun st=>vops I T cfg all kp k r st) (fun st=>vops I T cfg all kp k r (st.put o.dst (.tup [])))
def zgh (T:Tab):Op→Bool
 |.move _|.assign _|.pick .. |.load .. |.nilCheck _|.binOp .. |.unOp .. |.makeInterface .. |.slice .. |.fieldAddr .. |.field .. |.indexAddr .. |.index .. |.extract .. |.build .. =>true
 |.convert _ d _=>match T d with|some ⟨.slice _,_,_,_,_⟩=>false|_=>true
 |.call c=>match c.callee with|.builtin .len|.builtin .min|.builtin .max=>true|_=>false
 |_=>false
def Yn (T:Tab):List Oper→Nat
 |[]=>0
 |[_]=>0
 |o::r=>match zgh T o.op with|true=>Yn T r+1|false=>0
def qopO (I:Alg) (T:Tab) (o:Oper) (st:St) (k:St→Tree):Tree:=
 match o.op with
 |.pick c a b=>resolve st c fun st=>(qop I T st (.pick c a b)).tree fun d=>k (st.put o.dst d)
 |.load t x=>(qop I T (ze4 I st x) (.load t x)).tree fun d=>k ((ze4 I st x).put o.dst d)
 |op=>(qop I T st op).tree fun d=>k (st.put o.dst d)
def Q5 (I:Alg) (T:Tab) (all:List Oper) (k:St→Tree):List Oper→St→Tree
 |[],st=>k st
 |o::r,st=>qE st fun st=>TK all o st (fun st=>qopO I T o st fun st=>Q5 I T all k r st) (fun st=>Q5 I T all k r (st.put o.dst (.tup [])))
def takeN {α:Type}:Nat→List α→List α
 |0,_=>[]
 |_+1,[]=>[]
 |n+1,x::l=>x::takeN n l
def zfy {α:Type}:Nat→List α→List α
 |0,l=>l
 |_+1,[]=>[]
 |n+1,_::l=>zfy n l
theorem zc4 {α:Type}: ∀ (n:Nat) (l:List α),takeN n l=l.take n
 |0,_=>by simp [takeN]
 |_+1,[]=>by simp [takeN]
 |n+1,x::l=>by simp [takeN,zc4 n l]
theorem zes {α:Type}: ∀ (n:Nat) (l:List α),zfy n l=l.drop n
 |0,_=>by simp [zfy]
 |_+1,[]=>by simp [zfy]
 |n+1,x::l=>by simp [zfy,zes n l]
def yx:List Nat→List CO→List CO→List CO
 |q::qs,c::cs,K=>yx qs cs (K.set q c)
 |[],cs,K=>K++cs
 |_::_,[],K=>K
def tmpsOf:List Operand→List Nat
 |[]=>[]
 |.tmp t::r=>t::tmpsOf r
 |_::r=>tmpsOf r
def zmx (T:Tab):Op→Bool
 |.binOp .. |.unOp .. |.convert .. |.index .. =>true
 |.load t _=>match T t with|some ⟨.int _,_,_,_,_⟩=>true|some ⟨.str,_,_,_,_⟩=>true|some ⟨.bool,_,_,_,_⟩=>true|_=>false
 |.call c=>match c.callee with|.builtin .len|.builtin .min|.builtin .max=>true|_=>false
 |_=>false
def zmh:List (Nat × (List Nat × List Nat))→Nat→Option (List Nat × List Nat)
 |[],_=>none
 |(k,d)::r,t=>match Nat.beq k t with|true=>some d|false=>zmh r t
def expand (m:List (Nat × (List Nat × List Nat))):List Nat→List Nat × List Nat
 |[]=>([],[])
 |t::ts=>match zmh m t,expand m ts with|some us,(a,b)=>(us.1++a,us.2++b)|none,(a,b)=>(t::a,b)
def isLoad:Op→Bool
 |.load .. =>true
 |_=>false
def flow (T:Tab):List Oper→List (Nat × (List Nat × List Nat))→List Nat × List Nat→List Nat × List Nat
 |[],_,acc=>acc
 | o::r,m,acc=>
   let us:=match zmx T o.op with|true=>([],[])|false=>(match isLoad o.op,expand m (tmpsOf o.op.operands.toList) with|true,(a,b)=>([],a++b)|false,x=>x)
   flow T r (match o.dst with|some t=>(t,us)::m|none=>m) (match zgh T o.op with|true=>acc|false=>(match expand m (tmpsOf o.op.operands.toList) with|(a,b)=>(a++acc.1,b++acc.2)))
def ZB (st:St):List Nat→List Nat
 |[]=>[]
 |t::ts=>(match look st.env t with|some d=>ziY d|none=>[])++ZB st ts
def zaS (hp:List HO):List Nat→List Nat
 |[]=>[]
 |k::ks=>(match nth hp k with|some (.obj _ cs)=>UE cs|_=>[k])++zaS hp ks
def zdd (T:Tab) (all:List Oper) (st:St):List Nat:=gather st.hp 60 (match flow T all [] ([],[]) with|(a,b)=>ZB st a++zaS st.hp (ZB st b)) []
def qZ (tI:List Nat):List Nat→St→St
 |[],st=>st
 | t::ts,st=>match oneC (st.eval (.tmp t)) with
   |some (.ptr k _)=>(match memN k tI with|true=>qZ tI ts st|false=>qZ tI ts (tq st (.tmp t)))
   |_=>qZ tI ts st
def qx (tI:List Nat):List Oper→St→St
 |[],st=>st
 |o::r,st=>qx tI r (qZ tI (tmpsOf o.op.operands.toList) st)
def zaM (tI:List Nat):Nat→List HO→List Nat
 |_,[]=>[]
 | n,o::r=>match o,memN n tI with
   |.gone,_=>zaM tI (n+1) r
   |_,true=>zaM tI (n+1) r
   |_,false=>n::zaM tI (n+1) r
def putH:List Nat→List HO→List HO→List HO
 |q::qs,o::os,hp=>putH qs os (setN hp q o)
 |_,_,hp=>hp
def isNo:QR→Bool
 |.ok .bad=>true
 |.ok _=>false
 |.need _ r=>isNo r
 |.br _ a b=>match isNo a with|true=>true|false=>isNo b
 |.both a b=>match isNo a with|true=>true|false=>isNo b
 |.no=>true
def zm2 (all:List Oper) (o:Oper) (st:St):Bool:=
 match o.guard with
 |none=>false
 | some (j,want)=>match nth all j with
   | some oj=>(match oj.dst with
     | some t=>(match look st.env t with
       |some (.v (.one (.p (.val (.bool b)))))=>(match b,want with|true,true=>false|false,false=>false|_,_=>true)
       |some (.tup [])=>true
       |_=>false)
     |none=>false)
   |none=>false
def zmF (I:Alg) (T:Tab) (all:List Oper) (st stk:St) (o:Oper):Bool:=
 match zm2 all o st with
 |true=>true
 | false=>match isNo (qop I T stk o.op) with
   |false=>true
   |true=>match zgh T o.op,zdH o.op with|true,false=>true|_,_=>false
def uw (I:Alg) (T:Tab) (all:List Oper) (listed:Array Bool) (st stk:St):List Nat→Option Nat
 |[]=>none
 | i ::r=>match nth all i with
   | some o=>(match zmF I T all st stk o with
     |true=>(match Region.free .any all.toArray listed i with|true=>some i|false=>uw I T all listed st stk r)
     |false=>uw I T all listed st stk r)
   |none=>uw I T all listed st stk r
def zly (I:Alg) (T:Tab) (qs:List Nat) (os:List HO) (o:Oper) (st stk:St) (k:St→St→Tree):Tree:=
 match isNo (qop I T stk o.op) with
 |false=>(qop I T stk o.op).tree fun d=>k (st.put o.dst d) (stk.put o.dst d)
 | true=>match zdH o.op with
   |true=>.stop 30
   | false=>match o.op with
     |.pick c x y=>resolve st c fun st=>(qop I T { st with hp:=putH qs os st.hp} (.pick c x y)).tree fun d=>k (st.put o.dst d) (stk.put o.dst .bad)
     |op=>(qop I T { st with hp:=putH qs os st.hp} op).tree fun d=>k (st.put o.dst d) (stk.put o.dst .bad)
def zca (f:Nat→Tree):List Nat→Tree
 |[]=>.qed
 |[i]=>f i
 |i::r=>.both (f i) (zca f r)
def zix (b:Nat) (pre:Option (List Nat)) (r:List Nat):List Nat:=
 r.filter fun i=>match Nat.beq i b with|true=>false|false=>(match pre with|none=>true|some l=>xq i l)
def TU {α:Type}:List Bool→(List Bool→α)→α
 |[],k=>k []
 | b::r,k=>match b with
   |true=>TU r fun r=>k (true::r)
   |false=>TU r fun r=>k (false::r)
def zd5 {α:Type} (a:Array Bool) (k:Array Bool→α):α:=match a with|⟨l⟩=>TU l fun l=>k ⟨l⟩
theorem V3 {α:Type}: ∀ (l:List Bool) (k:List Bool→α),TU l k=k l
 |[],_=>rfl
 |true::r,k=>by simp only [TU,V3 r]
 |false::r,k=>by simp only [TU,V3 r]
theorem za9 {α:Type} (a:Array Bool) (k:Array Bool→α):zd5 a k=k a:=by
 obtain⟨l⟩:=a;simp only [zd5,V3]
def getA (a:Array Bool) (i:Nat):Bool:=match nth a.toList i with|some b=>b|none=>false
theorem zld (a:Array Bool) (i:Nat):getA a i=a.getD i false:=by
 obtain⟨l⟩:=a;simp only [getA,yc,Array.getD_eq_getD_getElem?,List.getElem?_toArray]
 cases l[i]? <;>rfl
def setB:List Bool→Nat→List Bool
 |[],_=>[]
 |_::l,0=>true::l
 |b::l,n+1=>b::setB l n
theorem zf7: ∀ (l:List Bool) (n:Nat),setB l n=l.set n true
 |[],_=>rfl
 |_::_,0=>rfl
 |b::l,n+1=>by simp [setB,zf7 l n]
def setA (a:Array Bool) (i:Nat):Array Bool:=⟨setB a.toList i⟩
theorem zkE (a:Array Bool) (i:Nat):setA a i=a.setIfInBounds i true:=by
 obtain⟨l⟩:=a
 simp [setA,zf7]
def zb5:List Edge→List Nat
 |[]=>[]
 |e::r=>match Region.binds .any e with|true=>e.on::zb5 r|false=>zb5 r
def UG (o:Oper):List Nat:=zb5 o.after.toList
def Z4:List Operand→List Nat
 |[]=>[]
 |x::r=>match x with|.tmp t=>t::Z4 r|_=>Z4 r
def VJ (all:List Oper) (o:Oper):List Nat:=
 match o.guard with
 |some (g,_)=>(match nth all g with|some og=>(match og.dst with|some t=>t::Z4 o.op.operands.toList|none=>Z4 o.op.operands.toList)|none=>Z4 o.op.operands.toList)
 |none=>Z4 o.op.operands.toList
structure Row1 where
 aft:List Nat
 dst:Option Nat
 lk:List Nat
def XJ (all:List Oper):List Oper→List Row1
 |[]=>[]
 |o::r=>⟨UG o,o.dst,VJ all o⟩::XJ all r
def zeD (x y:Row1):Bool:=
 match(match x.dst with|some d=>(match xq d y.lk with|true=>false|false=>(match y.dst with|some e=>(match Nat.beq e d with|true=>false|false=>true)|none=>true))|none=>true) with
 |false=>false
 |true=>match y.dst with|some e=>(match xq e x.lk with|true=>false|false=>true)|none=>true
def Zy (i:Nat) (x:Row1):Nat→List Row1→Bool
 |_,[]=>true
 | j,y::r=>match Nat.beq j i with
   |true=>Zy i x (j+1) r
   | false=>match xq j x.aft with
     |true=>Zy i x (j+1) r
     | false=>match xq i y.aft with
       |true=>Zy i x (j+1) r
       |false=>match zeD x y with|true=>Zy i x (j+1) r|false=>false
structure Row2 where
 aft:List Nat
 fr:Bool
def zeQ (full:List Row1):Nat→List Row1→List Row2
 |_,[]=>[]
 |i,x::r=>⟨x.aft,Zy i x 0 full⟩::zeQ full (i+1) r
def Zt (all:List Oper):List Row2:=zeQ (XJ all all) 0 (XJ all all)
def aftT (t:List Row2) (j:Nat):List Nat:=match nth t j with|some r=>r.aft|none=>[]
def vz {α:Type}:List Nat→(List Nat→α)→α
 |[],k=>k []
 | n::r,k=>match n with
   |0=>vz r fun r=>k (0::r)
   |m+1=>vz r fun r=>k ((m+1)::r)
theorem vw {α:Type}: ∀ (l:List Nat) (k:List Nat→α),vz l k=k l
 |[],_=>rfl
 |0::r,k=>by simp only [vz,vw r]
 |(m+1)::r,k=>by simp only [vz,vw r]
def zhr {α:Type} (x:Row2) (k:Row2→α):α:=match x with
 |⟨a,f⟩=>vz a fun a=>match f with|true=>k ⟨a,true⟩|false=>k ⟨a,false⟩
theorem zhq {α:Type} (x:Row2) (k:Row2→α):zhr x k=k x:=by
 obtain⟨a,f⟩:=x
 cases f<;>simp only [zhr,vw]
def zd2 {α:Type}:List Row2→(List Row2→α)→α
 |[],k=>k []
 |x::r,k=>zhr x fun x=>zd2 r fun r=>k (x::r)
theorem za5 {α:Type}: ∀ (l:List Row2) (k:List Row2→α),zd2 l k=k l
 |[],_=>rfl
 |x::r,k=>by simp only [zd2,zhq,za5 r]
def Xa (l:List Bool):List Nat→Bool
 |[]=>true
 |j::r=>match nth l j with|some true=>Xa l r|_=>false
def uK (full:List Bool):Nat→List Row2→List Bool→List Nat
 | i,x::r,b::l=>(match b with
   |true=>uK full (i+1) r l
   |false=>match Xa full x.aft with|true=>i::uK full (i+1) r l|false=>uK full (i+1) r l)
 |_,_,_=>[]
def tY (I :Alg) (T:Tab) (all:List Oper) (st stk:St) (b:Nat) (pre:Option (List Nat)) (full:List Bool):Nat→List Oper→List Row2→List Bool→Option Nat
 | i, o :: os,x::r,d::l=>(match d with
   |true=>tY I T all st stk b pre full (i+1) os r l
   | false =>match x.fr with
     |false=>tY I T all st stk b pre full (i+1) os r l
     | true=>match Nat.beq i b with
       |true=>tY I T all st stk b pre full (i+1) os r l
       | false=>match(match pre with|none=>true|some p=>xq i p) with
         |false=>tY I T all st stk b pre full (i+1) os r l
         | true=>match Xa full x.aft with
           |false=>tY I T all st stk b pre full (i+1) os r l
           | true=>match zmF I T all st stk o with
             |true=>some i
             |false=>tY I T all st stk b pre full (i+1) os r l)
 |_,_,_,_=>none
def mixT (I : Alg) (T:Tab) (cfg:Cfg) (all:List Oper) (tbl:List Row2) (b:Nat) (pre:Option (List Nat)) (qs:List Nat) (os:List HO) (K:Nat→Array Bool→St→Tree) (kq:C→St→Tree) (k:St→Tree):Nat→Array Bool→St→St→Tree
 |0,listed,st,_=>K 0 listed { st with hp:=putH qs os st.hp}
 | n + 1,listed,st,stk=>zd5 listed fun listed=>qE st fun st=>qE stk fun stk=>match getA listed b with
   |true=>K (n+1) listed { st with hp:=putH qs os st.hp}
   | false=>match(match tY I T all st stk b pre listed.toList 0 all tbl listed.toList with
     |some i=>some (some i)
     | none=>match uK listed.toList 0 tbl listed.toList with
       |[]=>none
       |r=>some (uw I T all listed st stk (zix b pre r))) with
     |none=>k { st with hp:=putH qs os st.hp}
     | some (some i)=>(match nth all i with
      |some o=>TK all o st (fun st=>zly I T qs os o st stk fun st stk=>mixT I T cfg all tbl b pre qs os K kq k n (setA listed i) st stk)
       (fun st=>mixT I T cfg all tbl b pre qs os K kq k n (setA listed i) (st.put o.dst (.tup [])) (stk.put o.dst .bad))
      |none=>.stop 33)
     |some none=>zca (fun i=>match nth all i with
      |some o=>TK all o st (fun st=>vop I T cfg (fun c st=>kq c { env:=[],hp:=putH qs os st.hp,n:=st.n,df:=st.df}) o st fun st=>mixT I T cfg all tbl b pre qs os K kq k n (setA listed i) st (stk.put o.dst .bad))
       (fun st=>mixT I T cfg all tbl b pre qs os K kq k n (setA listed i) (st.put o.dst (.tup [])) (stk.put o.dst .bad))
      |none=>.stop 34) (uK listed.toList 0 tbl listed.toList)
def VX:List HO→List HO
 |[]=>[]
 |_::r=>.gone::VX r
def WN:List Oper→List Nat→List Nat
 |[],_=>[]
 |o::r,seen=>match o.guard with|some (j,_)=>(match xq j seen with|true=>WN r seen|false=>j::WN r (j::seen))|none=>WN r seen
def U7 (t:List Row2):Nat→List Nat→List Nat→List Nat
 |0,_,acc=>acc
 |_+1,[],acc=>acc
 |f+1,j::r,acc=>match xq j acc with|true=>U7 t f r acc|false=>U7 t f (aftT t j++r) (j::acc)
def zmH (b:Nat) (acc:List Nat):List Nat→Bool
 |[]=>false
 |i::r=>match Nat.beq i b with|true=>true|false=>(match xq i acc with|true=>true|false=>zmH b acc r)
def QK (b:Nat):Nat→List Row2→List Nat→List Nat
 |_,[],acc=>acc
 | n,x::r,acc=>match zmH b acc x.aft with
   |true=>QK b (n+1) r (n::acc)
   |false=>QK b (n+1) r acc
def zir (b:Nat) (ps bs:List Nat):Nat→List Bool→Bool
 |_,[]=>true
 | j,d::l=>match d with
   |true=>zir b ps bs (j+1) l
   | false=>match Nat.beq j b with
     |true=>zir b ps bs (j+1) l
     | false=>match xq j ps with
       |true=>zir b ps bs (j+1) l
       |false=>match xq j bs with|true=>zir b ps bs (j+1) l|false=>false
def zm5 (t:List Row2) (listed:Array Bool) (b:Nat):Bool:=
 match nth listed.toList b with
 |some false=>vz (U7 t 4000 (aftT t b) []) fun ps=>vz (QK b 0 t []) fun bs=>zir b ps bs 0 listed.toList
 |_=>false
def zb7 (t:List Row2) (n:Nat) (listed:Array Bool):List Nat→Nat
 |[]=>n
 |b::r=>match zm5 t listed b with|true=>b|false=>zb7 t n listed r
def Rk (pre:Option (List Nat)) (b:Nat):Nat→List Bool→List Oper→List Oper
 | n,d::l,o::r=>(match d,(match pre with|none=>true|some l=>(match Nat.beq n b with|true=>true|false=>xq n l)) with
   |false,true=>o::Rk pre b (n+1) l r
   |_,_=>Rk pre b (n+1) l r)
 |_,_,_=>[]
def zi3 (t:List Row2) (n b:Nat):Option (List Nat):=match Nat.blt b n with|true=>vz (U7 t 4000 (aftT t b) []) fun l=>some l|false=>none
def Qc (gs:List Nat) (ops:List Oper) (st:St):St:=match gs with|[]=>st|_=>qx [] ops st
def zht {α:Type} (p:Option (List Nat)) (k:Option (List Nat)→α):α:=match p with|none=>k none|some l=>vz l fun l=>k (some l)
theorem zhs {α:Type} (p:Option (List Nat)) (k:Option (List Nat)→α):zht p k=k p:=by
 cases p<;>simp only [zht,vw]
theorem zhv {α:Type} (n:Nat) (k:Nat→α):TS n k=k n:=by cases n<;>rfl
def Qk {α:Type}:List Oper→(List Oper→α)→α
 |[],k=>k []
 |o::r,k=>Qk r fun r=>k (o::r)
theorem TR {α:Type}: ∀ (l:List Oper) (k:List Oper→α),Qk l k=k l
 |[],_=>rfl
 |o::r,k=>by simp only [Qk,TR r]
def mixP (I:Alg) (T:Tab) (cfg:Cfg) (all:List Oper) (tbl:List Row2) (gs:List Nat) (kq:C→St→Tree) (k:St→Tree):Nat→Nat→Array Bool→St→Tree
 |0,_,_,_=>.stop 37
 | m +1,n,listed,st=>zd5 listed fun listed=>match uK listed.toList 0 tbl listed.toList with
   |[]=>k st
   | _=>TS (zb7 tbl all.length listed gs) fun b=>zht (zi3 tbl all.length b) fun pre=>
     Qk (Rk pre b 0 listed.toList all) fun ops=>qE (Qc gs ops st) fun st0=>vz (zdd T ops st0) fun tI=>
     qE (qx tI ops st0) fun st1=>vz (zaM tI 0 st1.hp) fun qs=>
     match uh qs st1.hp with
     |some (os,hpr)=>mixT I T cfg all tbl b pre qs os (fun n listed st=>mixP I T cfg all tbl gs kq k m n listed st) kq k n listed { st1 with hp:=hpr} { st1 with hp:=putH qs os (VX hpr)}
     |none=>.stop 35
def zbu:List Oper→List Bool
 |[]=>[]
 |_::r=>false::zbu r
def mix (I:Alg) (T:Tab) (cfg:Cfg) (all:List Oper) (kq:C→St→Tree) (k:St→Tree) (st:St):Tree:=
 match Region.noSelect all.toArray with
 |true=>zd2 (Zt all) fun tbl=>vz (WN all []) fun gs=>mixP I T cfg all tbl gs kq k (all.length+1) all.length ⟨zbu all⟩ st
 |false=>.stop 36
def zkH (I:Alg) (T:Tab) (cfg:Cfg) (ops:Array Oper) (draw:Bool) (K:AEx→St→Tree) (st:St):Tree:=
 match draw with
 |false=>vops I T cfg ops.toList (fun c st=>K (.pan c) st) (fun st=>K .normal st) ops.toList st
 | true=>match Region.lexTailB .any ops (Yn T ops.toList) with
   |false=>mix I T cfg ops.toList (fun c st=>K (.pan c) st) (fun st=>K .normal st) st
   |true=>(Q5 I T ops.toList (fun st=>vops I T cfg ops.toList (fun c st=>K (.pan c) st) (fun st=>K .normal st) (zfy (Yn T ops.toList) ops.toList) st) (takeN (Yn T ops.toList) ops.toList) st)
def regT (I:Alg) (T:Tab) (cfg:Cfg) (ops:Array Oper) (draw:Bool) (K:AEx→St→Tree) (st:St):Tree:=zkH I T cfg ops draw (fun e st=>K e (st.zex I)) st
def vc (I:Alg) (T:Tab) (cfg:Cfg):Code→(AEx→St→Tree)→St→Tree
 |.skip,K,st=>K .normal st
 | .region id ops draw,K,st=>match memN id cfg.seam with
   |true=>.code (.region id ops draw) (st.tidy cfg.keep) K
   |false=>regT I T cfg ops draw K (st.tidy cfg.keep)
 |.seq a b,K,st=>vc I T cfg a (fun e st=>match e with|.normal=>vc I T cfg b K st|e=>K e st) st
 | .cond c t e,K,st=>resolve st c fun st=>match oneC (st.eval c) with
   |some (.p (.val (.bool true)))=>vc I T cfg t K st
   |some (.p (.val (.bool false)))=>vc I T cfg e K st
   |_=>.stop 10
 | .block id b,K,st=>vc I T cfg b (fun e st=>match e with
   |.exit j=>(match Nat.beq j id with|true=>K .normal st|false=>K (.exit j) st)
   |e=>K e st) st
 |.loop b,K,st=>.code (.loop b) (st.tidy cfg.keep) K
 |.exit id,K,st=>K (.exit id) st
 |.ret,K,st=>K .ret st
 |_,_,_=>.stop 11
end Go.Ab
namespace Go.Ab
open Go Go.Sep
variable [Facts]
section
variable {Pr:Program} {T:Tab} {X Y:Ctx} {G:AOut→List HO→Prop} {a:Act} {w:World}
def Now (X:Ctx) (st:St) (a:Act) (w:World):Prop:=∃ S K,Heap X st.hp S K w∧Env S (K.map CO.base) st a
theorem QR.xI {r:QR} {k:D→Tree} (h:(r.tree k).ok Pr Y G):r.holds fun d=>(k d).ok Pr Y G:=by
 induction r with
 |ok d=>exact h
 |need p r ih=>exact⟨h.1,ih h.2⟩
 |br b t f iht ihf=>exact⟨fun hb=>iht (h.1 hb),fun hb=>ihf (h.2 hb)⟩
 |both t f iht ihf=>exact⟨iht h.1,ihf h.2⟩
 |no=>exact h.elim
theorem LR.xI {r:LR} {k:D→St→Tree} (h:(r.tree k).ok Pr Y G):r.holds fun d st=>(k d st).ok Pr Y G:=by
 induction r with
 |ok d=>exact h
 |need p r ih=>exact⟨h.1,ih h.2⟩
 |no=>exact h.elim
theorem vH (st:St) (dst:Option Nat) (d:D):(st.put dst d).hp=st.hp:=by
 unfold St.put
 split
 · rfl
 · split<;>rfl
theorem Env.note {S:Frz} {bs:List Value} {st:St} (h:Env S bs st a) (t:Nat) {d:D} (hm:MD S bs d (a.tmps.getD t undef)):Env S bs (st.put (some t) d) a:=by
 simp only [St.put]
 split
 · refine⟨h.size,h.defers,fun s d' hs=> ?_⟩
   simp only [xw] at hs
   by_cases hts:t=s
   · subst hts
     simp only [if_true,jr] at hs;subst hs;exact hm
   · simp only [hts,if_false] at hs
     rw [WJ hts] at hs;exact h.slots s d' hs
 · exact h
theorem wM {st:St} {x:Operand} {k:St→Tree} (h:(resolve st x k).ok Pr Y G) (hn:Now X st a w): ∃ st',(k st').ok Pr Y G∧Now X st' a w∧st'.hp=st.hp:=by
 unfold resolve at h
 split at h
 · rename_i t
   split at h
   · rename_i b hb
     obtain⟨S,K,hH,hE⟩:=hn;have hm:=hE.slots t _ hb;generalize hv:a.tmps.getD t undef=v at hm;cases hm
     cases b with
     |true=>exact⟨st.put (some t) tt,h.1 rfl,⟨S,K,by rw [vH];exact hH,hE.note t (by rw [hv];exact .val _ rfl)⟩,vH _ _ _⟩
     |false=>exact⟨st.put (some t) ff,h.2 rfl,⟨S,K,by rw [vH];exact hH,hE.note t (by rw [hv];exact .val _ rfl)⟩,vH _ _ _⟩
   · exact⟨st,h,hn,rfl⟩
 · exact⟨st,h,hn,rfl⟩
theorem sW {st:St} {x:Operand} (hn:Now X st a w):Now X (tq st x) a w:=by
 unfold tq
 split
 · split
   · obtain⟨S,K,hH,hE⟩:=hn
     obtain⟨K',_,h2,h3⟩:=tZ hH hE _;exact⟨S,K',h2,h3⟩
   · obtain⟨S,K,hH,hE⟩:=hn
     obtain⟨K',_,h2,h3⟩:=tZ hH hE _;exact⟨S,K',h2,h3⟩
   · exact hn
 · exact hn
theorem VE {st:St} {x:Operand} (hn:Now X st a w):Now X (ze4 alg st x) a w:=by
 unfold ze4
 split
 · split
   · obtain⟨S,K,hH,hE⟩:=hn
     obtain⟨K',_,h2,h3⟩:=zb4 hH hE _ _;exact⟨S,K',h2,h3⟩
   · exact hn
 · exact sW hn
theorem Ro {sl:List SlE} {st:St} (ks:List Nat) (hn:Now X st a w):Now X (shutAll sl ks st) a w:=by
 induction ks generalizing st with
 |nil=>exact hn
 | cons k ks ih=>
   obtain⟨S,K,hH,hE⟩:=hn;obtain⟨K',_,h2,h3⟩:=Xe hH hE k;exact ih ⟨S,K',h2,h3⟩
theorem Now.y7 {st:St} (ks:List Nat) (hn:Now X st a w):Now X (Ab.y7 alg ks st) a w:=by
 obtain⟨S,K,hH,hE⟩:=hn;obtain⟨S',K',_,_,h3,h4⟩:=yR hH hE ks;exact⟨S',K',h3,h4⟩
theorem Now.put {st:St} {S:Frz} {K:List CO} (hH:Heap X st.hp S K w) (hE:Env S (K.map CO.base) st a) (dst:Option Nat) {d:D} {v:Value} (hm:MD S (K.map CO.base) d v):Now X (st.put dst d) (a.put dst v) w:=
 ⟨S,K,by rw [vH];exact hH,hE.put dst hm⟩
def OpOk (Pr:Program) (X:Ctx) (o:Oper) (a:Act) (w:World) (R:St→Prop) (RP:C→St→Prop):Prop:=
 (∃ v w',Does Pr a w o v w'∧∃ st',R st'∧Now X st' (a.put o.dst v) w')∨
 (∃ f args,(execOp a.eval o).run Pr w=.ok (.enter f args) w∧Calls Pr f args w fun e w'=>match e with
  |.returned v=>∃ st',R st'∧Now X st' (a.put o.dst v) w'
  |.panicked ch=>∃ c st' v,RP c st'∧ch=[{ v:=v,recovered:=false}]∧∃ S K,Heap X st'.hp S K w'∧Env S (K.map CO.base) st' a∧MC S (K.map CO.base) c v
  |.outgrown=>False)∨
 (∃ v c st',(execOp a.eval o).run Pr w=.halt (.panic v) w∧RP c st'∧∃ S K,Heap X st'.hp S K w∧Env S (K.map CO.base) st' a∧MC S (K.map CO.base) c v)
theorem OpOk.wp {o:Oper} {R:St→Prop} {RP:C→St→Prop} (h:OpOk Pr X o a w R RP) {next:Act→World→Prop} {Q:Exit→Act→World→Prop}
  (hn: ∀ st' a' w',R st'→Now X st' a' w'→next a' w') (hp: ∀ c st' v w',RP c st'→(∃ S K,Heap X st'.hp S K w'∧Env S (K.map CO.base) st' a∧MC S (K.map CO.base) c v)→Q (.panic [{ v:=v,recovered:=false}]) a w'):o.wp Pr a w next Q:=by
 unfold Oper.wp
 rcases h with⟨v,w',hd,st',hR,hN⟩|⟨f,args,hr,hc⟩|⟨v,c,st',hr,hR,hx⟩
 · rcases hd with hd|⟨hd,rfl⟩
   · rw [hd];exact hn _ _ _ hR hN
   · rw [hd];exact hn _ _ _ hR hN
 · rw [hr]
   simp only [Oper.upon];refine hc.mono fun e w'' he=> ?_
   cases e with
   |returned v=>obtain⟨st',h1,h2⟩:=he;exact hn _ _ _ h1 h2
   |panicked ch=>obtain⟨c,st',v,h1,rfl,h2⟩:=he;exact hp _ _ _ _ h1 h2
   |outgrown=>exact he.elim
 · rw [hr];exact hp _ _ _ _ hR hx
theorem q_ok (hT:T.fits Pr) {o:Oper} {st:St} {k:D→Tree} {RP:C→St→Prop} (h:((qop alg T st o.op).tree k).ok Pr Y G) (hn:Now X st a w):
  OpOk Pr X o a w (fun st'=>∃ d,(k d).ok Pr Y G∧st'=st.put o.dst d) RP:=by
 obtain⟨S,K,hH,hE⟩:=hn;obtain⟨v,d,hy,hm,hk⟩:=uj (hH.sit hT hE) o (W:=fun w'=>w'=w) (fun _=>(hH.sit hT hE).cls) _ (QR.xI h);exact .inl ⟨v,w,.inl (hy w rfl),_,⟨d,hk,rfl⟩,Now.put hH hE o.dst hm⟩
theorem l_ok (hT:T.fits Pr) {o:Oper} {st:St} {k:D→St→Tree} {RP:C→St→Prop} (h:((lop alg T st o.op).tree k).ok Pr Y G) (hn:Now X st a w):
  OpOk Pr X o a w (fun st'=>∃ d st1,(k d st1).ok Pr Y G∧st'=st1.put o.dst d) RP:=by
 obtain⟨S,K,hH,hE⟩:=hn;obtain⟨v,w',S',K',d,st',hd,_,_,hH',hE',hm,hk⟩:=zaB hT hH hE o _ (LR.xI h);exact .inl ⟨v,w',hd,_,⟨d,st',hk,rfl⟩,Now.put hH' hE' o.dst hm⟩
theorem zmG {o:Oper} {t:Nat} (ho:o.op=.alloc t) (hT:T.fits Pr) {st:St} {k:D→St→Tree} {RP:C→St→Prop} (h:((arrL alg T st t).tree k).ok Pr Y G) (hn:Now X st a w):
  OpOk Pr X o a w (fun st'=>∃ d st1,(k d st1).ok Pr Y G∧st'=st1.put o.dst d) RP:=by
 obtain⟨S,K,hH,hE⟩:=hn;obtain⟨dst,op,ty,pos,af,gd⟩:=o;simp only at ho;subst ho;obtain⟨v,w',S',K',d,st',hd,_,_,hH',hE',hm,hk⟩:=ziv hT hH hE _ (LR.xI h);exact .inl ⟨v,w',hd,_,⟨d,st',hk,rfl⟩,Now.put hH' hE' dst hm⟩
theorem zjj {o:Oper} {t:Nat} {x y:Operand} (ho:o.op=.makeSlice t x y) (hT:T.fits Pr) {st:St} {k:D→St→Tree} {RP:C→St→Prop} (h:((zjk alg T st t x y).tree k).ok Pr Y G) (hn:Now X st a w):
  OpOk Pr X o a w (fun st'=>∃ d st1,(k d st1).ok Pr Y G∧st'=st1.put o.dst d) RP:=by
 obtain⟨S,K,hH,hE⟩:=hn;obtain⟨dst,op,ty,pos,af,gd⟩:=o;simp only at ho;subst ho;obtain⟨v,w',S',K',d,st',hd,_,_,hH',hE',hm,hk⟩:=zb9 hT hH hE _ (LR.xI h);exact .inl ⟨v,w',hd,_,⟨d,st',hk,rfl⟩,Now.put hH' hE' dst hm⟩
theorem OpOk.mono {o:Oper} {R R':St→Prop} {RP:C→St→Prop} (h:OpOk Pr X o a w R RP) (hr: ∀ st,R st→R' st):OpOk Pr X o a w R' RP:=by
 rcases h with⟨v,w',hd,st',hR,hN⟩|⟨f,args,h1,hc⟩|h
 · exact .inl ⟨v,w',hd,st',hr _ hR,hN⟩
 · refine .inr (.inl ⟨f,args,h1,hc.mono fun e w' he=> ?_⟩)
   cases e with
   |returned v=>obtain⟨st',h2,h3⟩:=he;exact⟨st',hr _ h2,h3⟩
   |panicked ch=>exact he
   |outgrown=>exact he
 · exact .inr (.inr h)
theorem OpOk.turn {o:Oper} {R R':St→Prop} {RP:C→St→Prop} (h:OpOk Pr X o a w R RP) (g:St→St) (hg: ∀ {st:St} {a:Act} {w:World},Now X st a w→Now X (g st) a w) (hr: ∀ st,R st→R' (g st)):OpOk Pr X o a w R' RP:=by
 rcases h with⟨v,w',hd,st',hR,hN⟩|⟨f,args,h1,hc⟩|h
 · exact .inl ⟨v,w',hd,g st',hr _ hR,hg hN⟩
 · refine .inr (.inl ⟨f,args,h1,hc.mono fun e w' he=> ?_⟩)
   cases e with
   |returned v=>obtain⟨st',h2,h3⟩:=he;exact⟨g st',hr _ h2,hg h3⟩
   |panicked ch=>exact he
   |outgrown=>exact he
 · exact .inr (.inr h)
theorem zaT {cfg:Cfg} {t k:Nat} {st:St} {a:Act} {w:World} (hn:Now X st a w):Now X (zdW cfg t k st) a w:=by
 unfold zdW
 split
 · exact Ro _ hn
 · exact hn
theorem YU {S:Frz} {bs:List Value} {st:St} (hev: ∀ x d,st.eval x=some d→MD S bs d (a.eval x)): ∀ {xs:List Operand} {ds:List D},Uj st xs=some ds→MDs S bs ds (xs.map a.eval)
 |[],ds,h=>by cases h;trivial
 | x ::xs,ds,h=>by
   simp only [Uj] at h
   split at h
   · rename_i d ds' h1 h2
     cases h;refine⟨?_,YU hev h2⟩;have:=hev x d h1;unfold zgO
     split
     · exact xh _ _ this
     · obtain⟨vs,h3,h4⟩:=this;exact⟨vs,h3.map xh,h4⟩
     · exact this
   · cases h
theorem MDs.mono {S S':Frz} (hle:S.le S') {bs bs':List Value} (he:Ext bs bs'): ∀ {ds:List D} {vs:List Value},MDs S bs ds vs→MDs S' bs' ds vs
 |[],[],_=>trivial
 |_::_,_::_,h=>⟨h.1.mono hle he,MDs.mono hle he h.2⟩
theorem MDs.append {S:Frz} {bs:List Value}: ∀ {ds es:List D} {vs us:List Value},MDs S bs ds vs→MDs S bs es us→MDs S bs (ds++es) (vs++us)
 |[],_,[],_,_,h=>h
 |_::_,_,_::_,_,h,k=>⟨h.1,MDs.append h.2 k⟩
theorem MCap.mc {S:Frz} {bs:List Value} {c:Cap} {v:Value} (h:MCap S bs c v):MC S bs c.cell v:=by
 cases c with
 |p x=>exact h
 |ptr k off=>exact h
theorem qg.mds {S:Frz} {bs:List Value}: ∀ {ps:List Cap} {vs:List Value},qg S bs ps vs→MDs S bs (ps.map dP) vs
 |[],[],_=>trivial
 |_::_,_::_,h=>⟨h.1.mc,qg.mds h.2⟩
theorem zfc {S:Frz} {bs:List Value} {z:P} {c d:C} {v:Value} (h:mixC z c=some d) (hm:MC S bs c v):MC S bs d v:=by
 unfold mixC at h
 split at h
 · rename_i p hp;cases h;exact U1 hp hm
 · split at h
   · cases h;exact hm
   · cases h;exact hm
   · cases h
theorem XL {S:Frz} {bs:List Value}: ∀ {zs:List P} {cs ds:List C} {vs:List Value},zdK zs cs=some ds→MCs S bs cs vs→MCs S bs ds vs
 |[],[],ds,vs,h,hm=>by cases h;exact hm
 | z ::zs,c::cs,ds,vs,h,hm=>by
   simp only [zdK] at h
   split at h
   · rename_i d ds' h1 h2
     cases h
     cases vs with
     |nil=>exact hm.elim
     |cons v vs=>exact⟨zfc h1 hm.1,XL h2 hm.2⟩
   · cases h
 |[],_::_,_,_,h,_=>by cases h
 |_::_,[],_,_,h,_=>by cases h
theorem xR {own:Option Bool} {S:Frz}: ∀ {ds:List D} {tys:List Nat} {hp hp':List HO} {K:List CO} {vs:List Value} {ds':List D},Zz T own ds tys hp=some (ds',hp')→MDs S (K.map CO.base) ds vs→Heap X hp S K w→
  ∃ K',Ext (K.map CO.base) (K'.map CO.base)∧Heap X hp' S K' w∧MDs S (K'.map CO.base) ds' vs
 | [],tys,hp,hp',K,vs,ds',h,hm,hH=>by
   simp only [Zz,jr,Prod.mk.injEq] at h;obtain⟨rfl,rfl⟩:=h
   cases vs with
   |nil=>exact⟨K,Ext.refl _,hH,trivial⟩
   |cons _ _=>exact hm.elim
 |d::ds,[],hp,hp',K,vs,ds',h,hm,hH=>by cases h
 |d::ds,ty::tys,hp,hp',K,[],ds',h,hm,hH=>hm.elim
 | d ::ds,ty::tys,hp,hp',K,v::vs,ds',h,hm,hH=>by
   simp only [Zz] at h
   split at h
   · split at h
     · split at h
       · rename_i r hp2 hr
         cases h;obtain⟨K',h4,h5,h6⟩:=xR hr hm.2 hH;exact⟨K',h4,h5,hm.1.mono (Frz.le.refl S) h4,h6⟩
       · cases h
     · split at h
       · rename_i E e1 e2 e3 u hT
         split at h
         · split at h
           · rename_i r hp2 hr
             cases h;have hv:=hm.1;cases hv;obtain⟨h1,h2,h3⟩:=qy hH u E;obtain⟨K',h4,h5,h6⟩:=xR hr (hm.2.mono (Frz.le.refl S) h1) h2;exact⟨K',h1.trans h4,h5,MC.mono (Frz.le.refl S) h4 h3,h6⟩
           · cases h
         · split at h
           · rename_i r hp2 hr
             cases h;have hv:=hm.1;cases hv;obtain⟨K',h4,h5,h6⟩:=xR hr hm.2 hH;exact⟨K',h4,h5,Yy u,h6⟩
           · cases h
       · cases h
   · split at h
     · rename_i r hp2 hr
       cases h;obtain⟨K',h4,h5,h6⟩:=xR hr hm.2 hH;refine⟨K',h4,h5,?_,h6⟩;have hv:MP S (.nl _) v:=hm.1
       cases hv with
       |nl _ _ _ h2=>exact h2
     · cases h
   · split at h
     · split at h
       · rename_i ps r hp2 hps hr
         cases h;obtain⟨us,h1,rfl⟩:=hm.1;obtain⟨K',h4,h5,h6⟩:=xR hr hm.2 hH;exact⟨K',h4,h5,⟨us,(XL hps h1).mono (Frz.le.refl S) h4,rfl⟩,h6⟩
       · cases h
     · cases h
   · split at h
     · rename_i r hp2 hr
       cases h;obtain⟨K',h4,h5,h6⟩:=xR hr hm.2 hH;exact⟨K',h4,h5,hm.1.mono (Frz.le.refl S) h4,h6⟩
     · cases h
theorem zlz (hT:T.fits Pr) {cfg:Cfg} {kp:C→St→Tree} {o:Oper} {f:Operand} {xs:Array Operand} {tys:Array TypeId} {st:St} {k:St→Tree} (ho:o.op=.call ⟨.value f,xs,tys⟩) (h:(zlA alg T cfg kp o f xs.toList tys.toList st k).ok Pr Y G) (hn:Now X st a w):
  OpOk Pr X o a w (fun st'=>(k st').ok Pr Y G) (fun c st'=>(kp c st').ok Pr Y G):=by
 unfold zlA at h
 split at h
 · rename_i g caps ds hf hds
   simp only at h;obtain⟨S,K,hH,hE⟩:=hn
   have step1: ∃ S1 K1,S.le S1∧Heap X (za1 alg cfg g ds st).hp S1 K1 w∧Env S1 (K1.map CO.base) (za1 alg cfg g ds st) a:=by
    unfold za1
    split
    · obtain⟨S',K',h1,_,h3,h4⟩:=yR hH hE (ds.flatMap zeX);exact⟨S',K',h1,h3,h4⟩
    split
    · exact⟨S,K,Frz.le.refl S,hH,hE⟩
    · obtain⟨S',K',h1,_,h3,h4⟩:=yR hH hE (ds.flatMap ziD);exact⟨S',K',h1,h3,h4⟩
   generalize za1 alg cfg g ds st=st1 at h step1;obtain⟨S1,K1,hle1,hH1,hE1⟩:=step1
   have step2: ∀ (ks:List Nat) (st1:St) (K1:List CO),Heap X st1.hp S1 K1 w→Env S1 (K1.map CO.base) st1 a→∃ K2,Heap X (shutAll (zeA cfg g) ks st1).hp S1 K2 w∧Env S1 (K2.map CO.base) (shutAll (zeA cfg g) ks st1) a:=by
    intro ks
    induction ks with
    |nil=>intro st1 K1 h1 h2;exact⟨K1,h1,h2⟩
    |cons q qs ih=>intro st1 K1 h1 h2;obtain⟨K',_,h3,h4⟩:=Xe h1 h2 q;exact ih _ _ h3 h4
   obtain⟨K2,hH2,hE2⟩:=step2 ((ds++[D.v (.one (.fn g caps))]).flatMap zgi) st1 K1 hH1 hE1;generalize shutAll (zeA cfg g) ((ds++[D.v (.one (.fn g caps))]).flatMap zgi) st1=st2 at h hH2 hE2
   split at h
   · rename_i ds2 g2 caps2 hds2 hf2
     split at h
     case h_2=>exact h.elim
     rename_i ds3 hp3 hargsOf;obtain⟨out,hp',⟨⟨fn,hfn,hname,hbody⟩,hspec⟩,hk⟩:=h
     have hev: ∀ x d,st2.eval x=some d→MD S1 (K2.map CO.base) d (a.eval x):=by
      intro x d hx
      cases x with
      |tmp t=>exact hE2.slots t _ hx
      | const v=>
        simp only [St.eval] at hx
        split at hx
        · rename_i c hc;cases hx;exact Yx hc _
        · cases hx
      |func f=>simp only [St.eval,jr] at hx;cases hx;exact⟨[],trivial,rfl⟩
      |global g=>cases hx
     obtain⟨vs0,hcap,hfv⟩:=hev _ _ hf2;obtain⟨K3,hex3,hH3',hds3⟩:=xR hargsOf (YU hev hds2) hH2;have hE2:Env S1 (K3.map CO.base) st2 a:=hE2.mono (Frz.le.refl S1) hex3;have hH2:=hH3';have hargs:=hds3.append (hcap.mono (Frz.le.refl S1) hex3).mds;have hc:=hspec S1 K3 X.fr w _ hH2.2.2.1 hargs hH2.2.2.2;refine .inr (.inl ⟨g2,(xs.toList.map a.eval++vs0).toArray,?_,hc.mono fun e w' he=> ?_⟩)
     · obtain⟨dst,op,ty,pos,af,gd⟩:=o
       simp only at ho;subst ho
       have e1:xs.map a.eval++vs0.toArray=(xs.toList.map a.eval++vs0).toArray:=by
        apply Array.ext';simp
       have e2: ∀ args:Array Value,(callFunc g2 args).run Pr w=.ok (.enter g2 args) w:=by
        intro args
        have hname': ¬ fn.name= "runtime.NumGoroutine" :=by simpa using hname
        have hbody': ¬ fn.body=none:=by cases hb:fn.body with|none=>rw [hb] at hbody;cases hbody|some c=>simp
        simp [callFunc,program,hfn,Sem.run]
        rw [if_neg hname',if_neg hbody']
       simp only [execOp,Go.resolve,hfv,Deferred.ofValue,invoke,Sem.run_bind,Sem.run_pure,Result.andThen_ok,Array.empty_append,e1,e2]
     · obtain⟨S',K',hle,hex,hHR,hat,heo⟩:=he
       have hH3:Heap X hp' S' K' w':=⟨hH2.1.trans hle,fun i v hv=>hex i v (hH2.2.1 i v hv),hHR,hat⟩
       have hE3:Env S' (K'.map CO.base) { st2 with hp:=hp'} a:=⟨hE2.size,hE2.defers.mono hle hex,fun t d hd=>(hE2.slots t d hd).mono hle hex⟩
       cases e with
       | returned v=>cases out with
         |ret d=>exact⟨_,hk,Now.put (st:= { st2 with hp:=hp'}) hH3 hE3 o.dst heo⟩
         |pan c=>exact heo.elim
       | panicked ch=>cases out with
         |ret d=>exact heo.elim
         |pan c=>obtain⟨v,h1,h2⟩:=heo;exact⟨c,_,v,hk,h1,S',K',hH3,hE3,h2⟩
       |outgrown=>cases out<;>exact heo.elim
   · exact h.elim
 · exact h.elim
theorem qH {S:Frz} {bs:List Value} {st:St} (hev: ∀ x d,st.eval x=some d→MD S bs d (a.eval x)): ∀ {xs:List Operand} {ps:List Cap},zez st xs=some ps→qg S bs ps (xs.map a.eval)
 |[],ps,h=>by cases h;trivial
 | x ::xs,ps,h=>by
   simp only [zez] at h
   split at h
   · rename_i p ps' h1 h2
     cases h;refine⟨?_,qH hev h2⟩;unfold oneC at h1
     split at h1
     · rename_i c hc;cases h1;exact hev x _ hc
     · cases h1
   · rename_i k off ps' h1 h2
     cases h;refine⟨?_,qH hev h2⟩;unfold oneC at h1
     split at h1
     · rename_i c hc;cases h1;exact hev x _ hc
     · cases h1
   · cases h
theorem Z8 {t ty:Nat} {st:St} {S:Frz} {K:List CO} (hH:Heap X st.hp S K w) (hE:Env S (K.map CO.base) st a): ∃ K',Heap X (Vk T t ty st).hp S K' w∧Env S (K'.map CO.base) (Vk T t ty st) a:=by
 unfold Vk
 split
 · rename_i E e1 e2 e3 u hl hT
   obtain⟨h1,h2,h3⟩:=qy hH u E;have hv:=hE.slots t _ hl
   refine⟨_,by rw [vH];exact h2,Env.note (st:= { st with hp:=st.hp++[.row u E []]}) ⟨hE.size,hE.defers.mono (Frz.le.refl S) h1,fun t d hd=>(hE.slots t d hd).mono (Frz.le.refl S) h1⟩ t ?_⟩
   generalize a.tmps.getD t undef=v at hv;cases hv;exact h3
 · exact⟨K,hH,hE⟩
theorem zgT {nr:List Nat} {o:Oper} {st:St} (hn:Now X st a w):Now X (nilRow T nr o st) a w:=by
 unfold nilRow
 split
 · split
   · obtain⟨S,K,hH,hE⟩:=hn
     obtain⟨K',h1,h2⟩:=Z8 (T:=T) (t:=‹Nat›) (ty:=o.type) hH hE;exact⟨S,K',h1,h2⟩
   · exact hn
 · exact hn
theorem Rl {t Eb ty:Nat} {st:St} {S:Frz} {K:List CO} (hH:Heap X st.hp S K w) (hE:Env S (K.map CO.base) st a): ∃ K',Heap X (Rn T t Eb ty st).hp S K' w∧Env S (K'.map CO.base) (Rn T t Eb ty st) a:=by
 unfold Rn
 split
 · rename_i E e1 e2 e3 u hl hT
   have hv:=hE.slots t _ hl
   have he:Ext (K.map CO.base) ((K++[CO.pack [CO.row E U.prw.size none 0 0 []]]).map CO.base):=by rw [List.map_append];exact Ext.append _ _
   refine⟨K++[CO.pack [CO.row E U.prw.size none 0 0 []]],?_,Env.note (st:= { st with hp:=st.hp++[.rws .prw E Eb ([]:List Prt) none]}) ⟨hE.size,hE.defers.mono (Frz.le.refl S) he,fun t d hd=>(hE.slots t d hd).mono (Frz.le.refl S) he⟩ t ?_⟩
   · rw [vH]
     refine⟨hH.1,fun k v h=>he k v (hH.2.1 k v h),?_,?_⟩
     · refine(hH.2.2.1.mono (Frz.le.refl S) he).push ?_
       exact Rel.rws (u:=.prw) (o:=3) (l:=([]:List Prt)) (h:=none) (R:=[]) (vs:=[]) rfl rfl rfl (fun i x j p v h=>by simp at h) (fun i x v c h=>by simp at h)
     · refine At.more (c:=CO.pack [CO.row E U.prw.size none 0 0 []]) ?_
       exact At.UO (R:=[]) (hH.2.2.2.nilRow E U.prw.size)
   · generalize a.tmps.getD t undef=v at hv
     cases hv
     show MC S _ (.row st.hp.length) _
     rw [hH.2.2.1.1];exact⟨yO _ _,none,0,0,rfl⟩
 · exact⟨K,hH,hE⟩
theorem zgQ {rn:List Nat} {rb:Nat} {o:Oper} {st:St} (hn:Now X st a w):Now X (zgR T rn rb o st) a w:=by
 unfold zgR
 split
 · split
   · obtain⟨S,K,hH,hE⟩:=hn
     obtain⟨K',h1,h2⟩:=Rl (T:=T) (t:=‹Nat›) (Eb:=rb) (ty:=o.type) hH hE;exact⟨S,K',h1,h2⟩
   · exact hn
 · exact hn
theorem At.zmC {w:World} {E size:Nat} {ao:Option Addr} {n cap:Nat} {xs:List Value} {l:List Chunk} (H:At w (rowC E size (.slice ao n cap) n xs::l)) {q cap':Nat} (hq:q≤n) (hc:q≤cap') (hcc:cap'≤cap):
  At w (rowC E size (.slice ao q cap') q (xs.take (q * size))::l):=by
 refine H.step fun A hA=>⟨A,⟨fun k=> ?_,?_,?_⟩,fun _ h=>.inl h,Keeps.refl _ _⟩
 · rw [hA.1 k];cases ao<;>simp [Value.ownBlock]
 · have:=hA.2.1
   have hm:q * size≤n * size:=Nat.mul_le_mul_right _ hq;rw [jq,this];omega
 · rcases hA.2.2 with⟨e,rfl⟩|⟨g,cap0,cur,fz,e,hg,hf,h1,h2,h3,h4⟩
   · cases e
     have:q=0:=by omega
     have:cap'=0:=by omega
     subst_vars
     exact .inl ⟨rfl,rfl⟩
   · cases e
     refine .inr ⟨g,cap',cur,fz,rfl,hg,hf,hc,by omega,Nat.le_trans (Nat.mul_le_mul_right _ hcc) h3,?_⟩
     rw [← h4,List.take_take,Nat.min_eq_left (Nat.mul_le_mul_right _ hq)]
theorem YZ (hT:T.fits Pr) {cut:List Nat} {x:Option Nat} {st:St} {k:St→Tree} (h:(QB alg cut x st k).ok Pr Y G) (hn:Now X st a w): ∃ st',(k st').ok Pr Y G∧Now X st' a w:=by
 unfold QB at h
 split at h
 · exact⟨st,h,hn⟩
 · rename_i t
   split at h
   · exact⟨st,h,hn⟩
   · split at h
     · rename_i u j lo hi hl
       split at h
       · rename_i u' E l ho
         split at h
         · rename_i l' hcast
           obtain⟨e,he⟩:=Y2 hcast;subst e;subst he;obtain⟨hlo,hk⟩:=h;rw [wU] at hlo;subst hlo;obtain⟨S,K,hH,hE⟩:=hn;refine⟨_,hk,?_⟩;have hv:=hE.slots t _ hl;generalize hav:a.tmps.getD t undef=v at hv;rw [yc] at ho;obtain⟨ao0,cap0,vs,hkk,hlen,hxs,hrd⟩:=(hH.sit hT hE).row ho;obtain⟨ao1,n1,cap1,hb1,_,hhi,ao',cap',rfl,_,h4,h5,h6,h7,_,h9⟩:=hv;rw [zS hkk] at hb1;cases hb1;obtain⟨rfl,hcc⟩:=h9 rfl;obtain⟨p,r,hp1,hp2,hfront⟩:=uD hkk hH.2.2.2;have hcutA:=At.zmC (show At w (rowC E u'.size (.slice ao' l.length cap0) l.length vs::_) from hfront) h4 h5 hcc;have hz0:Int.toNat 0=0:=rfl;obtain⟨q,hqe⟩: ∃ q:Nat,hi.toNat=q:=⟨_,rfl⟩;simp only [hz0,Nat.sub_zero] at hav h5
           have hc2:alg.cut l 0 hi=l.take q:=by rw [vS,hqe];simp
           rw [hqe] at h4 h5 hcutA hav
           have hlq:(l.take q).length=q:=by rw [jq];omega
           have hbs:(K.set j (.gone (.slice ao' l.length cap0))).map CO.base=K.map CO.base:=yw hkk rfl
           have he:Ext (K.map CO.base) ((K.set j (.gone (.slice ao' l.length cap0))++[CO.row E u'.size ao' q cap' (vs.take (q * u'.size))]).map CO.base):=by rw [List.map_append,hbs];exact Ext.append _ _
           refine⟨S,K.set j (.gone (.slice ao' l.length cap0))++[CO.row E u'.size ao' q cap' (vs.take (q * u'.size))],?_,?_⟩
           · rw [vH]
             refine⟨hH.1,fun k v h=>he k v (hH.2.1 k v h),?_,?_⟩
             · simp only
               rw [yE,hc2];refine((hH.2.2.1.set j .gone).mono (Frz.le.refl S) he).push ?_
               have hR:=Rel.row (S:=S) (bs:=(K.set j (.gone (.slice ao' l.length cap0))++[CO.row E u'.size ao' q cap' (vs.take (q * u'.size))]).map CO.base) (E:=E) (ao:=ao') (cap:=cap') (u:=u') (l:=l.take q) (vs:=vs.take (q * u'.size)) (by rw [hlq,jq,hlen];have:=Nat.mul_le_mul_right u'.size h4;omega) (fun i x jj pp v hi' hj hv=> ?_)
               · rw [hlq] at hR;exact hR
               · rw [jC] at hi'
                 split at hi'
                 · rw [jC] at hv
                   split at hv
                   · exact hxs i x jj pp v hi' hj hv
                   · cases hv
                 · cases hi'
             · refine At.more ?_
               rw [hp2,zA]
               have h6:At w (frzC S::((CO.zl p++CO.chunk (CO.gone (.slice ao' l.length cap0))::CO.zl r)++(CO.row E u'.size ao' q cap' (vs.take (q * u'.size))).chunk::X.fr)):=by
                refine(At.void ?_).perm (zK _ _ _ _ _).symm;refine hcutA.perm ?_;exact yQ _ _ _ _
               refine h6.perm ?_;exact(yQ _ _ _ _).symm
           · refine Env.note (st:= { st with hp:=setN st.hp j .gone++[.row u' E (alg.cut l 0 hi)]}) ⟨hE.size,hE.defers.mono (Frz.le.refl S) he,fun t d hd=>(hE.slots t d hd).mono (Frz.le.refl S) he⟩ t ?_
             rw [hav]
             show MC S _ (.row st.hp.length) _
             have:st.hp.length=(K.set j (.gone (.slice ao' l.length cap0))).length:=by rw [hH.2.2.1.1];simp
             rw [this];exact⟨yO _ _,_,_,_,rfl⟩
         · exact h.elim
       · exact h.elim
     · exact⟨st,h,hn⟩
theorem zlH (hT:T.fits Pr) {o:Oper} {args:Array Operand} {tys:Array TypeId} {st:St} {k:D→St→Tree} {RP:C→St→Prop} (ho:o.op=.call ⟨.builtin .append,args,tys⟩) (h:((appI alg T st ⟨.builtin .append,args,tys⟩).tree k).ok Pr Y G) (hn:Now X st a w):
  OpOk Pr X o a w (fun st'=>∃ d st1,(k d st1).ok Pr Y G∧st'=st1.put o.dst d) RP:=by
 unfold appI at h
 split at h
 · rename_i s x t u h1 h2
   split at h
   · have e1:args= #[s,x]:=by apply Array.ext';simpa using h1
     have e2:tys= #[t,u]:=by apply Array.ext';simpa using h2
     subst e1;subst e2;obtain⟨S,K,hH,hE⟩:=hn;obtain⟨dst,op,ty,pos,af,gd⟩:=o;simp only at ho;subst ho;obtain⟨v,w',S',K',d,st',hd,_,_,hH',hE',hm,hk⟩:=QT hT hH hE _ (LR.xI h);exact .inl ⟨v,w',hd,_,⟨d,st',hk,rfl⟩,Now.put hH' hE' dst hm⟩
   · rw [← ho] at h;exact l_ok hT h hn
 · rw [← ho] at h;exact l_ok hT h hn
theorem ziw (hT:T.fits Pr) {cfg:Cfg} {o:Oper} {args:Array Operand} {tys:Array TypeId} {st:St} {k:St→Tree} {RP:C→St→Prop} (ho:o.op=.call ⟨.builtin .append,args,tys⟩)
  (h:Tree.ok Pr Y G (match(match o.dst with|some t=>memN t cfg.fork|none=>false) with
   |false=>(appI alg T st ⟨.builtin .append,args,tys⟩).tree fun d st'=>k (st'.put o.dst d)
   | true=>(match args.toList,tys.toList with
     | [s,x],[t,u]=>(match zjA alg T st t u s x with
       |some (p,stA,stB)=>.need p (.both (k (stA.put o.dst (.v (.one (.row st.hp.length))))) (k (stB.put o.dst (.v (.one (.row st.hp.length))))))
       |none=>.stop 60)
     |_,_=>.stop 61))) (hn:Now X st a w):OpOk Pr X o a w (fun st'=>(k st').ok Pr Y G) RP:=by
 split at h
 · exact(zlH hT ho h hn).mono fun _ ⟨d,st1,h3,h4⟩=>h4▸h3
 · split at h
   · rename_i s x t u h1 h2
     split at h
     · rename_i p stA stB hf
       obtain⟨S,K,hH,hE⟩:=hn
       have h1:args= #[s,x]:=by apply Array.ext';simpa using h1
       have h2:tys= #[t,u]:=by apply Array.ext';simpa using h2
       subst h1;subst h2;obtain⟨dst,op,ty,pos,af,gd⟩:=o;simp only at ho;subst ho;obtain⟨v,w',K',st',hst,hd,hH',hE',hm⟩:=zfm (dst:=dst) (ty:=ty) (pos:=pos) (af:=af) (gd:=gd) hT hH hE hf h.1;refine .inl ⟨v,w',hd,_,?_,Now.put hH' hE' dst hm⟩
       rcases hst with rfl|rfl
       · exact h.2.1
       · exact h.2.2
     · exact h.elim
   · exact h.elim
theorem zkq {o:Oper} {t yt:Nat} {x y:Operand} (ho:o.op=.binOp .add t x y yt) (hT:T.fits Pr) {st:St} {k:D→Tree} {RP:C→St→Prop} (h:((ziL alg st x y).tree k).ok Pr Y G) (hn:Now X st a w):
  OpOk Pr X o a w (fun st'=>∃ d,(k d).ok Pr Y G∧st'=st.put o.dst d) RP:=by
 obtain⟨S,K,hH,hE⟩:=hn
 have hs:yP Pr S K a (fun w'=>w'=w) o (ziL alg st x y):=by
  unfold ziL
  split
  · rename_i k1 m k2 n hx hy
    split
    · rename_i hk
      have:=vV hk;subst this;have hm:=(hH.sit hT hE).one hx;have hm':=(hH.sit hT hE).one hy;generalize hxv:a.eval x=xv at hm;generalize hyv:a.eval y=yv at hm';cases hm;cases hm';obtain⟨dst,op,ty,pos,af,gd⟩:=o;simp only at ho;subst ho
      exact zD (v:=.int _ (alg.wrap _ (alg.add m n))) (by simp [Yields,execOp,hxv,hyv,eqGuard,binOp,Op.intArith,alg]) (.int _ _)
    · exact zo
  · exact zo
 obtain⟨v,d,hy,hm,hk⟩:=hs _ (QR.xI h);exact .inl ⟨v,w,.inl (hy w rfl),_,⟨d,hk,rfl⟩,Now.put hH hE o.dst hm⟩
theorem zjZ (hT:T.fits Pr) {cfg:Cfg} {kp:C→St→Tree} {o:Oper} {st:St} {k:St→Tree} (h:(vop alg T cfg kp o st k).ok Pr Y G) (hn:Now X st a w):
  OpOk Pr X o a w (fun st'=>(k st').ok Pr Y G) (fun c st'=>(kp c st').ok Pr Y G):=by
 unfold vop at h
 split at h
 · rename_i c x y ho
   obtain⟨st',h1,h2,_⟩:=wM h hn;rw [← ho] at h1;exact(q_ok hT h1 h2).mono fun _ ⟨d,h3,h4⟩=>h4▸h3
 · rename_i t x ho
   rw [← ho] at h;exact(q_ok hT h (VE hn)).mono fun _ ⟨d,h3,h4⟩=>h4▸h3
 · rename_i x ho
   rw [← ho] at h;obtain⟨S,K,hH,hE⟩:=hn;obtain⟨v,d,hy,hm,hk⟩:=uj (hH.sit hT hE) o (W:=fun w'=>w'=w) (fun _=>(hH.sit hT hE).cls) _ (QR.xI h);obtain⟨st',h1,h2⟩:=YZ hT hk (zgT (zgQ (Now.put hH hE o.dst hm)));exact .inl ⟨v,w,.inl (hy w rfl),_,h1,h2⟩
 · rename_i t x v ho
   have put: ∀ {S0:Frz} {K0:List CO} {r:LR} {st1:St},yX Pr X S0 K0 a w o r→(r.tree fun _ st'=>k (st'.put o.dst (.tup []))).ok Pr Y G→OpOk Pr X o a w (fun st'=>(k st').ok Pr Y G) (fun c st'=>(kp c st').ok Pr Y G):=by
    intro S0 K0 r st1 hs h;obtain⟨v',w',S',K',d,st',hd,_,_,hH',hE',hm,hk⟩:=hs _ (LR.xI h);refine .inl ⟨undef,w',?_,_,hk,Now.put hH' hE' o.dst ⟨[],trivial,rfl⟩⟩
    rcases hd with hd|⟨hd,_⟩
    · exfalso
      obtain⟨dst,op,ty,pos,af,gd⟩:=o;simp only at ho;subst ho;simp only [execOp,Sem.run_bind] at hd
      cases hs:(Instr.storeAt t (a.eval x) (a.eval v)).run Pr w with
      |ok u w1=>rw [hs] at hd;simp only [Result.andThen_ok,Sem.run_pure] at hd;cases hd
      |halt q w1=>rw [hs] at hd;cases hd
    · exact .inr ⟨hd,rfl⟩
   split at h
   · obtain⟨S,K,hH,hE⟩:=hn
     have hs:yX Pr X S K a w o (zc7 alg T st t x v):=by
      obtain⟨dst,op,ty,pos,af,gd⟩:=o;simp only at ho;subst ho;exact zab hT hH hE
     exact put (st1:=st) hs h
   · rw [← ho] at h
     obtain⟨st1,h,S,K,hH,hE⟩:=YZ hT h (sW (x:=x) hn);exact put (st1:=st1) (zaB hT hH hE o) h
 · rename_i t ho
   split at h
   · exact(zmG ho hT h hn).mono fun _ ⟨d,st1,h3,h4⟩=>h4▸h3
   · rw [← ho] at h;exact(l_ok hT h hn).mono fun _ ⟨d,st1,h3,h4⟩=>h4▸h3
 · rename_i t x ho;rw [← ho] at h;exact(l_ok hT h hn).turn (zdW cfg t st.hp.length) zaT fun _ ⟨d,st1,h3,h4⟩=>h4▸h3
 · rename_i ho;rw [← ho] at h;exact(l_ok hT h hn).mono fun _ ⟨d,st1,h3,h4⟩=>h4▸h3
 · rename_i ho
   split at h
   · exact(zjj ho hT h hn).mono fun _ ⟨d,st1,h3,h4⟩=>h4▸h3
   · rw [← ho] at h;exact(l_ok hT h hn).mono fun _ ⟨d,st1,h3,h4⟩=>h4▸h3
 · rename_i s d x ho
   split at h
   · rw [← ho] at h;exact(l_ok hT h hn).mono fun _ ⟨d,st1,h3,h4⟩=>h4▸h3
   · rw [← ho] at h;exact(q_ok hT h hn).mono fun _ ⟨d,h3,h4⟩=>h4▸h3
 · rename_i fn first captured ho
   split at h
   · rename_i f ps hfirst hcaps
     have hfirst:first= #[]:=by apply Array.ext';simpa using hfirst
     subst hfirst;obtain⟨S,K,hH,hE⟩:=hn;have hm:=qH (hH.eval hT hE) hcaps;refine .inl ⟨.func (.func f) #[] (captured.toList.map a.eval).toArray,w,.inl ?_,_,h,Now.put hH hE o.dst ⟨_,hm,rfl⟩⟩;obtain⟨dst,op,ty,pos,af,gd⟩:=o;simp only at ho;subst ho
     have e1:Array.map a.eval captured=(captured.toList.map a.eval).toArray:=by apply Array.ext';simp
     simp [execOp,Instr.makeFunc,e1]
   · exact h.elim
 · rename_i x ho
   split at h
   · rename_i t b ps hc
     obtain⟨S,K,hH,hE⟩:=hn;have hm:=(hH.sit hT hE).one hc;generalize hx:a.eval x=xv at hm;refine .inr (.inr ⟨xv,_,st,?_,h,S,K,hH,hE,hm⟩)
     obtain⟨y,rfl⟩: ∃ y,xv=.iface t y:=by
      cases b with
      | false=>cases ps with
        |nil=>exact hm.elim
        | cons p ps=>cases ps with
          |nil=>obtain⟨y,_,rfl⟩:=hm;exact⟨y,rfl⟩
          |cons _ _=>exact hm.elim
      |true=>obtain⟨vs,_,rfl⟩:=hm;exact⟨_,rfl⟩
     obtain⟨dst,op,ty,pos,af,gd⟩:=o;simp only at ho;subst ho
     simp [execOp,hx,Instr.panic]
   · exact h.elim
 · rename_i c ho
   obtain⟨callee,args,tys⟩:=c
   cases callee with
   | builtin b=>
     cases b<;>first
      |(simp only at h;rw [← ho] at h;exact(q_ok hT h hn).mono fun _ ⟨d,h3,h4⟩=>h4▸h3)
      |exact ziw hT ho h hn
      |(simp only at h;rw [← ho] at h;exact(l_ok hT h hn).mono fun _ ⟨d,st1,h3,h4⟩=>h4▸h3)
   |value f=>exact zlz hT ho h hn
   |invoke r m=>exact h.elim
 · rename_i t x y yt ho
   split at h
   · exact(zkq ho hT h hn).mono fun _ ⟨d,h3,h4⟩=>h4▸h3
   · rw [← ho] at h;exact(q_ok hT h hn).mono fun _ ⟨d,h3,h4⟩=>h4▸h3
 · exact(q_ok hT h hn).mono fun _ ⟨d,h3,h4⟩=>h4▸h3
theorem zby {o:Oper} {f:Operand} {st:St} {k:St→Tree} (h:(zia o f st k).ok Pr Y G):
  o.dst=none∧∃ g caps,st.df=none∧st.eval f=some (.v (.one (.fn g caps)))∧(k { st with df:=some (g,caps)}).ok Pr Y G:=by
 unfold zia at h
 split at h
 · rename_i h1 h2 h3;exact⟨h1,_,_,h2,h3,h⟩
 · exact h.elim
theorem zh9 {o:Oper} {f:Operand} {g:Nat} {vs:List Value} (hdf:zcx o.op=some f) (hfv:a.eval f=.func (.func g) #[] vs.toArray):
  (execOp a.eval o).run Pr w=.ok (.defer ⟨.fn (.func g) vs.toArray,#[]⟩) w:=by
 obtain⟨dst,op,ty,pos,af,gd⟩:=o;unfold zcx at hdf
 split at hdf
 · rename_i c hop
   simp only at hop;subst hop;obtain⟨callee,args,tys⟩:=c
   split at hdf
   · rename_i x hcal hargs
     simp only at hcal hargs;subst hcal;cases hdf
     have hargs:args= #[]:=by apply Array.ext';simpa using hargs
     subst hargs
     simp [execOp,Go.resolve,hfv,Deferred.ofValue]
   · cases hdf
 · cases hdf
theorem ru {all:List Oper} {o:Oper} {st:St} {kt kf:St→Tree} (h:(TK all o st kt kf).ok Pr Y G) (hn:Now X st a w):
  ∃ st',Now X st' a w∧st'.hp=st.hp∧((Region.wanted o (yielded all.toArray a.tmps)=true∧(kt st').ok Pr Y G)∨(Region.wanted o (yielded all.toArray a.tmps)=false∧(kf st').ok Pr Y G)):=by
 unfold TK at h;unfold Region.wanted
 split at h
 · rename_i hg;rw [hg];exact⟨st,hn,rfl,.inl ⟨rfl,h⟩⟩
 · rename_i j want hg
   rw [hg];simp only
   split at h
   · exact h.elim
   · rename_i oj hj
     rw [yc] at hj
     split at h
     · exact h.elim
     · rename_i t ht
       obtain⟨st',h1,h2,h3⟩:=wM h hn;refine⟨st',h2,h3,?_⟩;obtain⟨S,K,hH,hE⟩:=h2
       have hy: ∀ v,a.tmps.getD t undef=v→yielded all.toArray a.tmps j=match(a.tmps[t]?) with|some (.bool b)=>some b|_=>none:=by
        intro v _;unfold yielded;simp only [List.getElem?_toArray,hj,Option.bind_some,ht];rfl
       split at h1
       · rename_i hl
         have hm:=hE.slots t _ hl;generalize hv:a.tmps.getD t undef=v at hm;cases hm
         have hsome:a.tmps[t]? =some (.bool true):=by
          cases hq:a.tmps[t]? with
          |none=>simp [hq,undef] at hv
          |some u=>simp [hq] at hv;rw [hv]
         rw [hy _ rfl,hsome]
         cases want<;>simp at h1 ⊢ <;>exact h1
       · rename_i hl
         have hm:=hE.slots t _ hl;generalize hv:a.tmps.getD t undef=v at hm;cases hm
         have hsome:a.tmps[t]? =some (.bool false):=by
          cases hq:a.tmps[t]? with
          |none=>simp [hq,undef] at hv
          |some u=>simp [hq] at hv;rw [hv]
         rw [hy _ rfl,hsome]
         cases want<;>simp at h1 ⊢ <;>exact h1
       · rename_i hl
         have hm:=hE.slots t _ hl;generalize hv:a.tmps.getD t undef=v at hm;obtain⟨vs,h4,rfl⟩:=hm;rw [hy _ rfl];refine .inr ⟨?_,h1⟩
         cases hq:a.tmps[t]? with
         |none=>simp
         |some u=>simp [hq] at hv;rw [hv];simp
       · exact h1.elim
theorem tN (hT:T.fits Pr) {cfg:Cfg} {all:List Oper} {kp:C→St→Tree} {k:St→Tree} {R:AEx→St→Prop} (hk: ∀ st,(k st).ok Pr Y G→R .normal st) (hkp: ∀ c st,(kp c st).ok Pr Y G→R (.pan c) st):
  ∀ {l:List Oper} {st:St} {a:Act} {w:World},(vops alg T cfg all kp k l st).ok Pr Y G→Now X st a w→wpList Pr all.toArray (Post X R) l a w
 | [],st,a,w,h,hn=>by
   obtain⟨S,K,hH,hE⟩:=hn;exact⟨.normal,st,hk _ h,S,K,hH,hE,trivial⟩
 | o ::r,st,a,w,h,hn=>by
   simp only [vops,Zd] at h
   obtain⟨st',hn',_,⟨hw,h1⟩|⟨hw,h1⟩⟩:=ru h hn
   · refine BigFrame.wpList_want hw fun Kx hKx=> ?_
     split at h1
     · rename_i f hdf
       obtain⟨hd0,g,caps,hf0,hev,hk2⟩:=zby h1;obtain⟨S,K,hH,hE⟩:=hn';have hm:=(hH.eval hT hE) _ _ hev;obtain⟨vs,hcap,hfv⟩:=hm;have hr:=zh9 (a:=a) (w:=w) (Pr:=Pr) hdf hfv;unfold Oper.wp;rw [hr];simp only [Oper.upon];rw [hd0];refine hKx _ _ (tN hT hk hkp hk2 ⟨S,K,hH,⟨hE.size,⟨vs,hcap,?_⟩,hE.slots⟩⟩);have:=hE.defers;rw [hf0] at this;simp only [MDf] at this
       simp [Act.put,this]
     exact(zjZ hT h1 hn').wp (fun st2 a2 w2 hR hN=>hKx _ _ (tN hT hk hkp hR hN)) fun c st2 v w2 hR ⟨S,K,hH,hE,hm⟩=>⟨.pan c,st2,hkp _ _ hR,S,K,hH,hE,v,rfl,hm⟩
   · unfold wpList
     rw [if_neg (by rw [hw];simp)]
     obtain⟨S,K,hH,hE⟩:=hn';exact tN hT hk hkp h1 (Now.put hH hE o.dst ⟨[],trivial,rfl⟩)
theorem zeY (hT:T.fits Pr) {o:Oper} {st:St} {k:St→Tree} (h:(qopO alg T o st k).ok Pr Y G) (hn:Now X st a w): ∃ v st',Yields Pr a (fun w'=>w'=w) o v∧(k st').ok Pr Y G∧Now X st' (a.put o.dst v) w:=by
 have go: ∀ {st:St},((qop alg T st o.op).tree fun d=>k (st.put o.dst d)).ok Pr Y G→Now X st a w→∃ v st',Yields Pr a (fun w'=>w'=w) o v∧(k st').ok Pr Y G∧Now X st' (a.put o.dst v) w:=by
  intro st h hn;obtain⟨S,K,hH,hE⟩:=hn;obtain⟨v,d,hy,hm,hk⟩:=uj (hH.sit hT hE) o (W:=fun w'=>w'=w) (fun _=>(hH.sit hT hE).cls) _ (QR.xI h);exact⟨v,_,hy,hk,Now.put hH hE o.dst hm⟩
 unfold qopO at h
 split at h
 · rename_i c x y ho
   obtain⟨st',h1,h2,_⟩:=wM h hn;rw [← ho] at h1;exact go h1 h2
 · rename_i t x ho
   rw [← ho] at h;exact go h (VE hn)
 · exact go h hn
theorem qh (hT:T.fits Pr) {all:List Oper} {k:St→Tree} {Q:Act→Prop} (hk: ∀ st a,(k st).ok Pr Y G→Now X st a w→Q a):
  ∀ {l:List Oper} {st:St} {a:Act},(Q5 alg T all k l st).ok Pr Y G→Now X st a w→wpStill Pr all.toArray w Q l a
 |[],st,a,h,hn=>hk _ _ h hn
 | o ::r,st,a,h,hn=>by
   simp only [Q5,Zd] at h
   obtain⟨st',hn',_,⟨hw,h1⟩|⟨hw,h1⟩⟩:=ru h hn
   · obtain⟨v,st2,hy,h2,h3⟩:=zeY hT h1 hn'
     exact zx hw (hy w rfl) (qh hT hk h2 h3)
   · unfold wpStill
     rw [if_neg (by rw [hw];simp)]
     obtain⟨S,K,hH,hE⟩:=hn';exact qh hT hk h1 (Now.put hH hE o.dst ⟨[],trivial,rfl⟩)
theorem OpOk.wp3 {o:Oper} {R:St→Prop} {RP:C→St→Prop} (h:OpOk Pr X o a w R RP) {next:Act→World→Prop} {Q:Exit→Act→World→Prop}
  (hn: ∀ st' v w',R st'→Now X st' (a.put o.dst v) w'→next (a.put o.dst v) w') (hp: ∀ c st' v w',RP c st'→(∃ S K,Heap X st'.hp S K w'∧Env S (K.map CO.base) st' a∧MC S (K.map CO.base) c v)→Q (.panic [{ v:=v,recovered:=false}]) a w'):o.wp Pr a w next Q:=by
 unfold Oper.wp
 rcases h with⟨v,w',hd,st',hR,hN⟩|⟨f,args,hr,hc⟩|⟨v,c,st',hr,hR,hx⟩
 · rcases hd with hd|⟨hd,rfl⟩
   · rw [hd];exact hn _ _ _ hR hN
   · rw [hd];exact hn _ _ _ hR hN
 · rw [hr]
   simp only [Oper.upon];refine hc.mono fun e w'' he=> ?_
   cases e with
   |returned v=>obtain⟨st',h1,h2⟩:=he;exact hn _ _ _ h1 h2
   |panicked ch=>obtain⟨c,st',v,h1,rfl,h2⟩:=he;exact hp _ _ _ _ h1 h2
   |outgrown=>exact he.elim
 · rw [hr];exact hp _ _ _ _ hR hx
theorem zfl {S S':Frz} {l:List Chunk} (hle:S.le S') (H:At w (frzC S'::l)):At w (frzC S::l):=by
 obtain⟨F,A,B,e,dj,⟨h0,h1⟩,hr⟩:=H;refine⟨fun k=>(S.blk k).isSome=true∨B k,fun k=>(S.blk k).isSome=true,B,fun _=>Iff.rfl,fun k hA hB=>dj k ?_ hB,⟨fun _=>Iff.rfl,Frz.on.mono h1 hle⟩,hr⟩;refine(h0 k).2 ?_;obtain⟨o,ho⟩:=Option.isSome_iff_exists.1 hA;rw [hle.2.2.2 k o ho];rfl
theorem Xi {S:Frz} {B:List Value}: ∀ {qs:List Nat} {os hp:List HO} {cs K:List CO},os.length=cs.length→os.length=qs.length→HR S B hp K→(∀ (i:Nat) (o:HO) (c:CO),os[i]? =some o→cs[i]? =some c→Rel S B o c)→HR S B (putH qs os hp) (yx qs cs K)
 | [],os,hp,cs,K,hl,hq,hr,ho=>by
   have h1:os=[]:=List.eq_nil_of_length_eq_zero (by simpa using hq)
   subst h1
   have h2:cs=[]:=List.eq_nil_of_length_eq_zero (by simpa using hl.symm)
   subst h2;simp only [putH,yx,List.append_nil];exact hr
 | q::qs,o::os,hp,c::cs,K,hl,hq,hr,ho=>by
   simp only [putH,yx]
   refine Xi (by simpa using hl) (by simpa using hq) ?_ (fun i o' c' h1 h2=>ho (i+1) o' c' (by simpa using h1) (by simpa using h2))
   rw [yE];exact hr.set q (ho 0 o c rfl rfl)
 |q::qs,[],hp,cs,K,hl,hq,_,_=>by cases hq
 |q::qs,o::os,hp,[],K,hl,_,_,_=>by cases hl
theorem zm6 {w:World} {S:Frz} {K:List CO} {fr:List Chunk} {q:Nat} {c:CO} (hq:q<K.length) (H:At w (frzC S::(CO.zl K++(c.chunk::fr)))):At w (frzC S::(CO.zl (K.set q c)++fr)):=by
 obtain⟨p,r,h1,_,h3⟩:=yM (ji hq);rw [h3,zA];rw [h1,zA] at H;have H2:=(H.perm (zK _ _ _ _ _)).tail;have H3:=H2.perm ((yQ c.chunk (frzC S) (CO.zl p++CO.zl r) fr).symm);exact H3.perm (zK _ _ _ _ _).symm
theorem zit {S:Frz}: ∀ {qs:List Nat} {cs K:List CO} {fr:List Chunk},qs.length=cs.length→(∀ q ∈ qs,q<K.length)→At w (frzC S::(CO.zl K++(CO.zl cs++fr)))→At w (frzC S::(CO.zl (yx qs cs K)++fr))
 | [],cs,K,fr,hl,_,hat=>by
   have h2:cs=[]:=List.eq_nil_of_length_eq_zero (by simpa using hl.symm)
   subst h2
   simpa [yx,CO.zl] using hat
 | q::qs,c::cs,K,fr,hl,hqs,hat=>by
   simp only [yx]
   refine zit (by simpa using hl) (fun q' h'=>by simp;exact hqs q' (List.mem_cons_of_mem _ h')) ?_
   exact zm6 (c:=c) (hqs q (List.mem_cons_self ..)) (fr:=CO.zl cs++fr) (by simpa [CO.zl] using hat)
 |q::qs,[],K,fr,hl,_,_=>by cases hl
theorem UF {K:List CO} {q:Nat} {c:CO} (h:(K.map CO.base)[q]? =some c.base):(K.set q c).map CO.base=K.map CO.base:=by
 have hlt:q<K.length:=by simpa using (jh.1 h).1
 have hc:K[q]? =some K[q]:=ji hlt;refine yw hc ?_;rw [zS hc] at h;simp only [jr] at h;exact h.symm
theorem Xh: ∀ {qs:List Nat} {cs K:List CO},(∀ (i q:Nat) (c:CO),qs[i]? =some q→cs[i]? =some c→(K.map CO.base)[q]? =some c.base)→qs.length=cs.length→(yx qs cs K).map CO.base=K.map CO.base
 | [],cs,K,_,hl=>by
   have h2:cs=[]:=List.eq_nil_of_length_eq_zero (by simpa using hl.symm)
   subst h2
   simp [yx]
 | q::qs,c::cs,K,h,hl=>by
   have h0:=UF (h 0 q c rfl rfl);simp only [yx]
   rw [Xh (fun i q' c' h1 h2=>by rw [h0];exact h (i+1) q' c' (by simpa using h1) (by simpa using h2)) (by simpa using hl),h0]
 |q::qs,[],K,_,hl=>by cases hl
theorem zeC {S:Frz}: ∀ {B:List Value} {l:List Chunk},At w (frzC S::l)→At w (frzC S::(CO.zl (B.map CO.gone)++l))
 |[],l,h=>h
 | v::B,l,h=>by
   have h1:=zeC (B:=B) h;refine(At.void h1).perm ?_;simp only [List.map_cons,CO.zl,CO.chunk,List.cons_append];exact List.Perm.swap _ _ _
structure Kept (X:Ctx) (S0:Frz) (B0:List Value) (qs:List Nat) (os:List HO) (Cs:List CO):Prop where
 le:X.S0.le S0
 ext:Ext X.bs0 B0
 len:Cs.length=os.length
 len2:os.length=qs.length
 base: ∀ (i q:Nat) (c:CO),qs[i]? =some q→Cs[i]? =some c→B0[q]? =some c.base
 rel: ∀ (i:Nat) (o:HO) (c:CO),os[i]? =some o→Cs[i]? =some c→Rel S0 B0 o c
def Kept.ctx (X:Ctx) (S0:Frz) (B0:List Value) (Cs:List CO):Ctx:=⟨S0,B0,CO.zl Cs++X.fr⟩
def Held (S0:Frz) (Cs:List CO):World→Prop:=fun w=>∃ S fr,S0.le S∧At w (frzC S::(CO.zl Cs++fr))
section
variable {S0:Frz} {B0:List Value} {qs:List Nat} {os:List HO} {Cs:List CO}
theorem Kept.lt (h:Kept X S0 B0 qs os Cs) {q:Nat} (hq:q ∈ qs):q<B0.length:=by
 obtain⟨i,hi⟩:=List.getElem?_of_mem hq
 have hil:i<Cs.length:=by rw [h.len,h.len2];exact(jh.1 hi).1
 exact(jh.1 (h.base i q _ hi (ji hil))).1
theorem Kept.held {st:St} (hn:Now (Kept.ctx X S0 B0 Cs) st a w):Held S0 Cs w:=by
 obtain⟨S,K,hH,hE⟩:=hn;refine⟨S,CO.zl K++X.fr,hH.1,hH.2.2.2.perm (List.Perm.cons _ ?_)⟩;have h9:(CO.zl K++CO.zl Cs).Perm (CO.zl Cs++CO.zl K):=List.perm_append_comm;have h10:=h9.append_right X.fr;rw [jk,jk] at h10;exact h10
theorem Kept.merge (h:Kept X S0 B0 qs os Cs) {st:St} {S:Frz} {K:List CO} (hH:Heap (Kept.ctx X S0 B0 Cs) st.hp S K w):
  ∃ K',K'.map CO.base=K.map CO.base∧Heap X (putH qs os st.hp) S K' w:=by
 have hb: ∀ (i q:Nat) (c:CO),qs[i]? =some q→Cs[i]? =some c→(K.map CO.base)[q]? =some c.base:=fun i q c e1 e2=>hH.2.1 q _ (h.base i q c e1 e2)
 have hlt: ∀ q ∈ qs,q<K.length:=fun q hq=>by
  obtain⟨i,hi⟩:=List.getElem?_of_mem hq
  have hil:i<Cs.length:=by rw [h.len,h.len2];exact(jh.1 hi).1
  have:=(jh.1 (hb i q _ hi (ji hil))).1
  simpa using this
 have hl:qs.length=Cs.length:=by rw [h.len,h.len2]
 have e:=Xh hb hl
 refine⟨yx qs Cs K,e,h.le.trans hH.1,fun k v hv=>by rw [e];exact hH.2.1 k v (h.ext k v hv),?_,zit hl hlt hH.2.2.2⟩
 rw [e];exact Xi h.len.symm h.len2 hH.2.2.1 fun i o c e1 e2=>(h.rel i o c e1 e2).mono hH.1 hH.2.1
theorem Kept.cls (h:Kept X S0 B0 qs os Cs):Cls S0 (yx qs Cs (B0.map CO.gone)) (Held S0 Cs):=by
 intro w' ⟨S,fr,hle,hat⟩
 exact⟨S,fr,hle,zit (by rw [h.len,h.len2]) (fun q hq=>by simpa using h.lt hq) (zeC hat)⟩
theorem TM (B:List Value):(B.map CO.gone).map CO.base=B:=by
 rw [List.map_map]
 have:(CO.base ∘ CO.gone)=id:=by funext v;simp [CO.base]
 rw [this,List.map_id]
theorem Kept.bases (h:Kept X S0 B0 qs os Cs):(yx qs Cs (B0.map CO.gone)).map CO.base=B0:=by
 rw [Xh (fun i q c e1 e2=>by rw [TM];exact h.base i q c e1 e2) (by rw [h.len,h.len2]),TM]
theorem XQ: ∀ (l:List HO),(VX l).length=l.length
 |[]=>rfl
 |_::l=>by simp [VX,XQ l]
theorem zaZ: ∀ (l:List HO) (i:Nat) (o:HO),(VX l)[i]? =some o→o=.gone
 |[],i,o,h=>by simp [VX] at h
 |_::l,0,o,h=>by simp [VX] at h;exact h.symm
 |_::l,i+1,o,h=>zaZ l i o (by simpa [VX] using h)
theorem Kept.sit (hT:T.fits Pr) (h:Kept X S0 B0 qs os Cs) {hpr:List HO} (hl:hpr.length=B0.length) {stk:St} (he:stk.hp=putH qs os (VX hpr)) (hE:Env S0 B0 stk a) (hw:Held S0 Cs w):
  ∃ fr,Sit Pr T S0 (yx qs Cs (B0.map CO.gone)) fr stk a w:=by
 obtain⟨S,fr,hle,hat⟩:=h.cls w hw
 refine⟨fr,hT,?_,zfl hle hat,by rw [h.bases];exact hE⟩
 rw [h.bases,he]
 refine Xi h.len.symm h.len2 ⟨by simp [XQ,hl],fun i o c e1 e2=> ?_⟩ h.rel
 rw [zaZ _ _ _ e1];exact .gone
def MixQ (X:Ctx) (R:AEx→St→Prop):Exit→Act→World→Prop:=fun e a w=>match e with
 |.normal=>Post X R .normal a w
 |.panic ch=>∃ c st',R (.pan c) st'∧st'.env=[]∧∃ S K v,Heap X st'.hp S K w∧Env S (K.map CO.base) st' a∧ch=[{ v:=v,recovered:=false}]∧MC S (K.map CO.base) c v
 |_=>False
theorem zdJ {X:Ctx} {R:AEx→St→Prop} (dst:Option Tmp) (v:Value) (ch:List PanicEntry) (a:Act) (w:World) (h:MixQ X R (.panic ch) (a.put dst v) w):MixQ X R (.panic ch) a w:=by
 obtain⟨c,st',h1,h2,S,K,u,h3,h4,h5,h6⟩:=h
 refine⟨c,st',h1,h2,S,K,u,h3,⟨?_,?_,fun t d hd=>by rw [h2] at hd;cases hd⟩,h5,h6⟩
 · have:=h4.size
   cases dst with
   |none=>exact this
   |some t=>simpa [Act.put] using this
 · have:=h4.defers
   cases dst with
   |none=>exact this
   |some t=>exact this
theorem Tm {f:Nat→Tree}: ∀ {r:List Nat},(zca f r).ok Pr Y G→∀ i ∈ r,(f i).ok Pr Y G
 |[],_,i,hi=>by cases hi
 | [j],h,i,hi=>by
   have:i=j:=by simpa using hi
   subst this;exact h
 | j::k::r,h,i,hi=>by
   rcases List.mem_cons.1 hi with e|e
   · subst e;exact h.1
   · exact Tm (r:=k::r) h.2 i e
theorem tu {all:List Oper} {listed:Array Bool} {st stk:St}: ∀ {r:List Nat} {i:Nat},uw alg T all listed st stk r=some i→i ∈ r∧Region.free .any all.toArray listed i=true
 |[],i,h=>by cases h
 | j ::r,i,h=>by
   simp only [uw] at h;have again:uw alg T all listed st stk r=some i→i ∈ j::r∧Region.free .any all.toArray listed i=true:=fun h=>⟨List.mem_cons_of_mem _ (tu h).1,(tu h).2⟩
   split at h
   · split at h
     · split at h
       · rename_i hf;cases h;exact⟨List.mem_cons_self ..,hf⟩
       · exact again h
     · exact again h
   · exact again h
theorem QM {S:Frz} {bs:List Value} {stk:St} (h:Env S bs stk a) (dst:Option Nat) (v:Value):Env S bs (stk.put dst .bad) (a.put dst v):=h.put dst trivial
theorem zcA (hT:T.fits Pr) (h:Kept X S0 B0 qs os Cs) {hpr:List HO} (hl:hpr.length=B0.length) {o:Oper} {st stk:St} {k:St→St→Tree} (ht:(zly alg T qs os o st stk k).ok Pr Y G)
  (hn:Now (Kept.ctx X S0 B0 Cs) st a w) (he:stk.hp=putH qs os (VX hpr)) (hE:Env S0 B0 stk a):
  ∃ v st' stk',Yields Pr a (Held S0 Cs) o v∧(k st' stk').ok Pr Y G∧Now (Kept.ctx X S0 B0 Cs) st' (a.put o.dst v) w∧stk'.hp=stk.hp∧Env S0 B0 stk' (a.put o.dst v):=by
 unfold zly at ht
 split at ht
 · obtain⟨fr,hs⟩:=h.sit hT hl he hE (Kept.held hn)
   obtain⟨v,d,hy,hm,hk⟩:=uj hs o (W:=Held S0 Cs) (fun _=>h.cls) _ (QR.xI ht);rw [h.bases] at hm;obtain⟨S,K,hH,hE2⟩:=hn;exact⟨v,_,_,hy,hk,Now.put hH hE2 o.dst (hm.mono hH.1 hH.2.1),vH _ _ _,hE.put o.dst hm⟩
 · have go: ∀ {st:St},zdH o.op=false→((qop alg T { st with hp:=putH qs os st.hp} o.op).tree fun d=>k (st.put o.dst d) (stk.put o.dst .bad)).ok Pr Y G→Now (Kept.ctx X S0 B0 Cs) st a w→
     ∃ v st' stk',Yields Pr a (Held S0 Cs) o v∧(k st' stk').ok Pr Y G∧Now (Kept.ctx X S0 B0 Cs) st' (a.put o.dst v) w∧stk'.hp=stk.hp∧Env S0 B0 stk' (a.put o.dst v):=by
    intro st hnw ht hn;obtain⟨S,K,hH,hE2⟩:=hn;obtain⟨K',hb,hH2⟩:=h.merge hH
    have hE3:Env S (K'.map CO.base) { st with hp:=putH qs os st.hp} a:=by rw [hb];exact⟨hE2.size,hE2.defers,hE2.slots⟩
    obtain⟨v,d,hy,hm,hk⟩:=uj (hH2.sit hT hE3) o (W:=Held S0 Cs) (fun e=>by rw [hnw] at e;cases e) _ (QR.xI ht)
    rw [hb] at hm;exact⟨v,_,_,hy,hk,Now.put hH hE2 o.dst hm,vH _ _ _,QM hE o.dst v⟩
   split at ht
   · exact ht.elim
   · rename_i hnw
     split at ht
     · rename_i c x y ho
       obtain⟨st',h1,h2,_⟩:=wM ht hn;rw [← ho] at h1;exact go hnw h1 h2
     · exact go hnw ht hn
theorem zfH {b:Nat} {pre:Option (List Nat)} {r:List Nat} {i:Nat} (h:i ∈ zix b pre r):i ∈ r∧(∀ l,pre=some l→i ∈ l)∧b≠i:=by
 unfold zix at h;rw [List.mem_filter] at h;obtain⟨h1,h2⟩:=h
 split at h2
 · cases h2
 rename_i hb
 have hne:b≠i:=fun e=>by subst e;simp at hb
 refine⟨h1,fun l e=> ?_,hne⟩;subst e;exact sD h2
theorem Tj {i:Nat}: ∀ {l:List Nat},i ∈ l→xq i l=true
 | j ::r,h=>by
   unfold xq
   split
   · rfl
   · rename_i hb
     rcases List.mem_cons.1 h with e|e
     · subst e;simp at hb
     · exact Tj e
theorem VI {o:Oper} {j:Nat}:j ∈ UG o↔∃ e ∈ o.after,Region.binds .any e=true∧e.on=j:=by
 unfold UG
 have: ∀ l:List Edge,j ∈ zb5 l↔∃ e ∈ l,Region.binds .any e=true∧e.on=j:=by
  intro l
  induction l with
  |nil=>simp [zb5]
  | cons e r ih=>
    simp only [zb5]
    split
    · rename_i h;simp only [List.mem_cons,ih,exists_eq_or_imp,h,true_and]
      exact or_congr ⟨fun h=>h.symm,fun h=>h.symm⟩ Iff.rfl
    · rename_i h;simp [ih,h]
 simpa using this o.after.toList
theorem ziF {ops:List Oper} {j:Nat} {o:Oper} (ho:ops[j]? =some o):UJ ops j=UG o:=by
 unfold UJ UG;rw [ho];simp only;generalize o.after.toList=l
 induction l with
 |nil=>rfl
 | cons e r ih=>
   simp only [List.filterMap_cons,zb5,ih]
   cases Region.binds .any e<;>rfl
theorem Q7 {full:List Row1}: ∀ {l:List Row1} {n k:Nat},(zeQ full n l)[k]? =(l[k]?).map fun x=>⟨x.aft,Zy (n+k) x 0 full⟩
 |[],n,k=>by simp [zeQ]
 |x::r,n,0=>by simp [zeQ]
 | x::r,n,k+1=>by
   simp only [zeQ,List.getElem?_cons_succ];rw [Q7 (l:=r)]
   rw [show n+1+k=n+(k+1) by omega]
def row1 (all:List Oper) (o:Oper):Row1:=⟨UG o,o.dst,VJ all o⟩
theorem Xl {all:List Oper}: ∀ {l:List Oper} {k:Nat},(XJ all l)[k]? =(l[k]?).map (row1 all)
 |[],k=>by simp [XJ]
 |x::r,0=>by simp [XJ,row1]
 |x::r,k+1=>by simp only [XJ,List.getElem?_cons_succ];exact Xl
theorem Z5 {all:List Oper} {k:Nat}:(Zt all)[k]? =(all[k]?).map fun o=>⟨UG o,Zy k (row1 all o) 0 (XJ all all)⟩:=by
 unfold Zt;rw [Q7,Xl,Option.map_map];simp only [Nat.zero_add];rfl
theorem ziE {all:List Oper} {j:Nat}:aftT (Zt all) j=UJ all j:=by
 unfold aftT;rw [yc,Z5]
 cases h:all[j]? with
 |none=>simp [UJ,h]
 |some o=>simp [ziF h]
theorem Vx {all:List Oper}: ∀ {f:Nat} {l acc:List Nat},U7 (Zt all) f l acc=ZC all f l acc
 |0,_,_=>rfl
 |_+1,[],_=>rfl
 | f+1,j::r,acc=>by
   simp only [U7,ZC,ziE];cases xq j acc
   · exact Vx
   · exact Vx
theorem Y9 {l:List Bool}: ∀ {r:List Nat},Xa l r=true↔∀ j ∈ r,l[j]? =some true
 |[]=>by simp [Xa]
 | j ::r=>by
   simp only [Xa,yc]
   split
   · rename_i h;simp [h,Y9 (r:=r)]
   · rename_i h
     constructor
     · intro hf;cases hf
     · intro hf;exact absurd (hf j (List.mem_cons_self ..)) h
theorem Ti {full:List Bool} {i:Nat}: ∀ {n:Nat} {tb:List Row2} {l:List Bool},i ∈ uK full n tb l↔∃ k x,i=n+k∧tb[k]? =some x∧l[k]? =some false∧Xa full x.aft=true
 |n,[],l=>by simp [uK]
 |n,x::r,[]=>by simp [uK]
 | n,x::r,b::l=>by
   have ih:=Ti (full:=full) (i:=i) (n:=n+1) (tb:=r) (l:=l)
   have hs:(∃ k y,i=n+k∧(x::r)[k]? =some y∧(b::l)[k]? =some false∧Xa full y.aft=true)↔(i=n∧b=false∧Xa full x.aft=true)∨∃ k y,i=n+1+k∧r[k]? =some y∧l[k]? =some false∧Xa full y.aft=true:=by
    constructor
    · rintro⟨k,y,h1,h2,h3,h4⟩
      cases k with
      |zero=>simp at h2 h3;subst h2;exact .inl ⟨h1,h3,h4⟩
      |succ k=>exact .inr ⟨k,y,by omega,by simpa using h2,by simpa using h3,h4⟩
    · rintro(⟨h1,h2,h3⟩|⟨k,y,h1,h2,h3,h4⟩)
      · exact⟨0,x,h1,rfl,by simp [h2],h3⟩
      · exact⟨k+1,y,by omega,by simpa using h2,by simpa using h3,h4⟩
   rw [hs,← ih];simp only [uK]
   cases b with
   |true=>simp
   | false=>
     simp only
     split
     · rename_i h;simp [h]
     · rename_i h;simp [h]
theorem zis {listed:Array Bool} {j:Nat}:listed.toList[j]? =some true↔listed.getD j false=true:=by
 rw [Array.getD_eq_getD_getElem?,← Array.getElem?_toList]
 cases listed.toList[j]? <;>simp
theorem QN {listed:Array Bool} {j:Nat}:listed.toList[j]? =some false↔listed.getD j true=false:=by
 rw [Array.getD_eq_getD_getElem?,← Array.getElem?_toList]
 cases listed.toList[j]? <;>simp
theorem ready_one {all:List Oper} {listed:Array Bool} {i:Nat} {x:Row2} (h2:(Zt all)[i]? =some x) (h3:listed.toList[i]? =some false) (h4:Xa listed.toList x.aft=true):i ∈ Region.ready .any all.toArray listed:=by
 rw [mem_ready];rw [Z5] at h2
 cases ho:all[i]? with
 |none=>rw [ho] at h2;cases h2
 | some o=>
   rw [ho] at h2;cases h2
   exact⟨QN.1 h3,o,by simpa using ho,fun e he hb=>zis.1 (Y9.1 h4 _ (VI.2 ⟨e,he,hb,rfl⟩))⟩
theorem Yl {all:List Oper} {listed:Array Bool} {i:Nat}:i ∈ uK listed.toList 0 (Zt all) listed.toList↔i ∈ Region.ready .any all.toArray listed:=by
 rw [Ti];constructor
 · rintro⟨k,x,h1,h2,h3,h4⟩
   simp only [Nat.zero_add] at h1;subst h1;exact ready_one h2 h3 h4
 · intro h
   obtain⟨h1,o,ho,hall⟩:=mem_ready.1 h
   have ho':all[i]? =some o:=by simpa using ho
   refine⟨i,_,by omega,by rw [Z5,ho'];rfl,QN.2 h1,Y9.2 fun j hj=> ?_⟩
   obtain⟨e,he,hb,rfl⟩:=VI.1 hj;exact zis.2 (hall e he hb)
theorem U0 {all:List Oper} {listed:Array Bool} (h:uK listed.toList 0 (Zt all) listed.toList=[]):Region.ready .any all.toArray listed=[]:=by
 cases hr:Region.ready .any all.toArray listed with
 |nil=>rfl
 | cons i r=>
   have:i ∈ uK listed.toList 0 (Zt all) listed.toList:=Yl.2 (by rw [hr];exact List.mem_cons_self ..)
   rw [h] at this;cases this
theorem zb8 {all:List Oper} {o:Oper} {d:Nat} (h:d ∈ o.looksAt all.toArray):d ∈ VJ all o:=by
 have ht: ∀ l:List Operand,d ∈ (l.filterMap fun|.tmp t=>some t|_=>none)→d ∈ Z4 l:=by
  intro l
  induction l with
  |nil=>simp [Z4]
  | cons x r ih=>
    intro h
    cases x<;>simp only [List.filterMap_cons,Z4,List.mem_cons] at h ⊢ <;>first|exact ih h|exact h.imp id ih
 unfold Oper.looksAt at h;unfold VJ
 rcases List.mem_append.1 h with h|h
 · have h1:=ht _ h
   split
   · split
     · split
       · exact List.mem_cons_of_mem _ h1
       · exact h1
     · exact h1
   · exact h1
 · split at h
   · rename_i g b hg
     simp only [hg,yc];simp only [List.getElem?_toArray,Option.mem_toList,Option.bind_eq_some_iff] at h;obtain⟨og,ho,hd⟩:=h;rw [ho];simp only [hd];exact List.mem_cons_self ..
   · cases h
theorem zbH {all:List Oper} {x y:Oper} (h:zeD (row1 all x) (row1 all y)=true):x.apart all.toArray y=true:=by
 unfold zeD row1 at h;simp only at h;unfold Oper.apart
 have hc: ∀ {d:Nat} {o:Oper},xq d (VJ all o)=false→(o.looksAt all.toArray).contains d=false:=by
  intro d o hf
  cases hb:(o.looksAt all.toArray).contains d with
  |false=>rfl
  | true=>
    have hm:d ∈ o.looksAt all.toArray:=by simpa using hb
    rw [Tj (zb8 hm)] at hf;cases hf
 split at h
 · cases h
 rename_i h1;rw [jJ];constructor
 · cases hx:x.dst with
   |none=>rfl
   | some d=>
     rw [hx] at h1;simp only at h1 ⊢
     split at h1
     · cases h1
     rename_i hm;rw [hc hm]
     cases hy:y.dst with
     |none=>rfl
     | some e=>
       rw [hy] at h1;simp only at h1
       split at h1
       · cases h1
       rename_i hb;have hne:e≠d:=Nat.ne_of_beq_eq_false hb
       simp [hne]
 · cases hy:y.dst with
   |none=>rfl
   | some e=>
     rw [hy] at h;simp only at h ⊢
     split at h
     · cases h
     rename_i hm;rw [hc hm];rfl
theorem VY {i:Nat} {x:Row1}: ∀ {n:Nat} {l:List Row1},Zy i x n l=true→∀ k y,l[k]? =some y→n+k≠i→xq (n+k) x.aft=false→xq i y.aft=false→zeD x y=true
 |n,[],_,k,y,h=>by simp at h
 | n, z :: r,hf,k,y,h=>by
   intro h1 h2 h3;simp only [Zy] at hf
   cases k with
   | zero=>
     simp only [List.getElem?_cons_zero,jr] at h;subst h;simp only [Nat.add_zero] at h1 h2
     have hb:Nat.beq n i=false:=by
      cases hq:Nat.beq n i with
      |true=>exact absurd (jH hq) h1
      |false=>rfl
     rw [hb,h2,h3] at hf;simp only at hf
     split at hf
     · assumption
     · cases hf
   | succ k=>
     have hr :Zy i x (n+1) r=true:=by
      split at hf
      · exact hf
      · split at hf
        · exact hf
        · split at hf
          · exact hf
          · split at hf
            · exact hf
            · cases hf
     exact VY hr k y (by simpa using h) (by omega) (by rw [show n+1+k=n+(k+1) by omega];exact h2) h3
theorem zjx {all:List Oper} {listed:Array Bool} {i:Nat} {x:Row2} (h2:(Zt all)[i]? =some x) (h4:Xa listed.toList x.aft=true) (hf:x.fr=true):Region.free .any all.toArray listed i=true:=by
 rw [Z5] at h2
 cases ho:all[i]? with
 |none=>rw [ho] at h2;cases h2
 | some o=>
   rw [ho] at h2;cases h2
   have ho':all.toArray[i]? =some o:=by simpa using ho
   unfold Region.free;rw [ho'];simp only [List.all_eq_true,List.mem_range];intro j hj
   cases hji:(j == i) with
   |true=>rfl
   | false =>
     cases hl:listed.getD j true with
     |true=>simp
     | false=>
       have hlt:j<all.length:=by simpa using hj
       have hoj:all[j]? =some all[j]:=ji hlt
       have hoj':all.toArray[j]? =some all[j]:=by simpa using hoj
       rw [hoj'];simp only [Bool.false_or]
       have h5:xq j (UG o)=false:=by
        cases hm:xq j (UG o) with
        |false=>rfl
        | true=>
          have:=Y9.1 h4 j (sD hm);have h6:=QN.2 hl;rw [this] at h6;cases h6
       rw [Bool.or_eq_true]
       cases hm:xq i (UG all[j]) with
       | true=>
         left
         obtain⟨e,he,hb,hon⟩:=VI.1 (sD hm);rw [Array.any_eq_true']
         exact⟨e,he,by simp [hb,hon]⟩
       | false=>
         right
         have:=VY hf j (row1 all all[j]) (by rw [Xl,hoj];rfl) (by simp only [Nat.zero_add];simpa using hji) (by simp only [Nat.zero_add];exact h5) hm
         exact zbH this
theorem Vw {all:List Oper} {st stk:St} {b:Nat} {pre:Option (List Nat)} {full:List Bool} {i:Nat}: ∀ {n:Nat} {os:List Oper} {tb:List Row2} {l:List Bool},tY alg T all st stk b pre full n os tb l=some i→
  ∃ k x,i=n+k∧tb[k]? =some x∧l[k]? =some false∧x.fr=true∧b≠i∧(∀ p,pre=some p→i ∈ p)∧Xa full x.aft=true
 |n,[],tb,l,h=>by simp [tY] at h
 |n,o::os,[],l,h=>by simp [tY] at h
 |n,o::os,x::tb,[],h=>by simp [tY] at h
 | n,o::os,x::tb,d::l,h=>by
   have next:tY alg T all st stk b pre full (n+1) os tb l=some i→∃ k y,i=n+k∧(x::tb)[k]? =some y∧(d::l)[k]? =some false∧y.fr=true∧b≠i∧(∀ p,pre=some p→i ∈ p)∧Xa full y.aft=true:=by
    intro h;obtain⟨k,y,h1,h2,h3,h4⟩:=Vw h
    exact⟨k+1,y,by omega,by simpa using h2,by simpa using h3,h4⟩
   simp only [tY] at h
   split at h
   · exact next h
   split at h
   · exact next h
   rename_i hf
   split at h
   · exact next h
   rename_i hb
   split at h
   · exact next h
   rename_i hp
   split at h
   · exact next h
   rename_i ha
   split at h
   · cases h
     refine⟨0,x,rfl,rfl,rfl,hf,fun e=>by subst e;simp at hb,fun p e=> ?_,ha⟩
     subst e;exact sD hp
   · exact next h
theorem zfa (hT:T.fits Pr) (h:Kept X S0 B0 qs os Cs) {hpr:List HO} (hl:hpr.length=B0.length) {cfg:Cfg} {all:List Oper} (hsel:Region.noSelect all.toArray=true) {k:St→Tree} {kq:C→St→Tree} {R:AEx→St→Prop} (hkq: ∀ c st,(kq c st).ok Pr Y G→R (.pan c) st) (hk: ∀ st,(k st).ok Pr Y G→R .normal st)
  {b:Nat} {pre:Option (List Nat)} (hpre: ∀ i,i<all.length→(∀ l,pre=some l→i ∈ l)→b≠i→Before all b i) {K:Nat→Array Bool→St→Tree}
  (hK: ∀ {n:Nat} {listed:Array Bool} {st:St} {a:Act} {w:World},Clo all listed→(K n listed st).ok Pr Y G→Now X st a w→wpAny Pr .any all.toArray (MixQ X R) n listed a w):
  ∀ {n:Nat} {listed:Array Bool} {st stk:St} {a:Act} {w:World},Clo all listed→(mixT alg T cfg all (Zt all) b pre qs os K kq k n listed st stk).ok Pr Y G→Now (Kept.ctx X S0 B0 Cs) st a w→stk.hp=putH qs os (VX hpr)→Env S0 B0 stk a→
    Ve Pr all (MixQ X R) (Held S0 Cs) b n listed a w:=by
 have whole: ∀ {st:St} {a:Act} {w:World},Now (Kept.ctx X S0 B0 Cs) st a w→Now X { st with hp:=putH qs os st.hp} a w:=by
  intro st a w hn;obtain⟨S,K,hH,hE⟩:=hn;obtain⟨K',hb,hH2⟩:=h.merge hH
  exact⟨S,K',hH2,by rw [hb];exact⟨hE.size,hE.defers,hE.slots⟩⟩
 have fin: ∀ {st:St} {a:Act} {w:World},(k { st with hp:=putH qs os st.hp}).ok Pr Y G→Now (Kept.ctx X S0 B0 Cs) st a w→MixQ X R .normal a w:=by
  intro st a w hq hn;obtain⟨S,K,hH,hE⟩:=whole hn;exact⟨.normal,_,hk _ hq,S,K,hH,hE,trivial⟩
 intro n
 induction n with
 | zero=>
   intro listed st stk a w hc ht hn he hE;exact hK hc ht (whole hn)
 | succ n ih =>
   intro listed st stk a w hc ht hn he hE;simp only [mixT,za9,Zd,zkE,zld] at ht
   split at ht
   · rename_i hb
     exact⟨fun _=>hK hc ht (whole hn),fun h=>(by rw [hb] at h;cases h)⟩
   rename_i hbf
   split at ht
   · rename_i hr
     have hr:Region.ready .any all.toArray listed=[]:=by
      split at hr
      · cases hr
      · split at hr
        · rename_i h0;exact U0 h0
        · cases hr
     exact⟨fun h=>(by rw [hbf] at h;cases h),fun _=>⟨fun _=>fin ht hn,fun i hi=>by rw [hr] at hi;cases hi⟩⟩
   · rename_i i hfc
     obtain⟨hir,hfree,hil,hbi⟩:i ∈ Region.ready .any all.toArray listed∧Region.free .any all.toArray listed i=true∧(∀ l,pre=some l→i ∈ l)∧b≠i:=by
      split at hfc
      · rename_i j hq
        cases hfc;obtain⟨k,x,h1,h2,h3,h4,h5,h6,h7⟩:=Vw hq;simp only [Nat.zero_add] at h1;subst h1;exact⟨ready_one h2 h3 h7,zjx h2 h7 h4,h6,h5⟩
      · split at hfc
        · cases hfc
        · rename_i hq
          obtain⟨hir,hfree⟩:=tu (Option.some.inj hfc);obtain⟨hir,hil,hbi⟩:=zfH hir;exact⟨Yl.1 hir,hfree,hil,hbi⟩
     split at ht
     · rename_i o ho
       rw [yc] at ho;have hlt:=(jh.1 ho).1;have hB:=hpre i hlt hil hbi
       obtain⟨st',hn',_,⟨hw,h1⟩|⟨hw,h1⟩⟩:=ru ht hn
       · obtain⟨v,st2,stk2,hy,h2,h3,h4,h5⟩:=zcA hT h hl h1 hn' he hE
         exact zbI (by simpa using ho) hB hc hsel hfree hir (fun c a w=>zdJ _ _ _ _ _) (.inl ⟨hw,hy⟩) (Kept.held hn) (ih (Ur hc hir) h2 h3 (h4.trans he) h5)
       · obtain⟨S,K,hH,hE2⟩:=hn'
         exact zbI (by simpa using ho) hB hc hsel hfree hir (fun c a w=>zdJ _ _ _ _ _) (.inr ⟨hw,rfl⟩) (Kept.held hn) (ih (Ur hc hir) h1 (Now.put hH hE2 o.dst ⟨[],trivial,rfl⟩) ((vH _ _ _).trans he) (QM hE o.dst _))
     · exact ht.elim
   · rename_i hfc
     have hne:Region.ready .any all.toArray listed≠[]:=by
      split at hfc
      · cases hfc
      · split at hfc
        · cases hfc
        · rename_i hne
          intro h0;apply hne
          cases hq:uK listed.toList 0 (Zt all) listed.toList with
          |nil=>rfl
          | cons j r=>
            have:j ∈ Region.ready .any all.toArray listed:=Yl.1 (by rw [hq];exact List.mem_cons_self ..)
            rw [h0] at this;cases this
     refine⟨fun h=>(by rw [hbf] at h;cases h),fun _=>⟨fun h=>absurd h hne,fun i hi=> ?_⟩⟩
     have ht:=Tm ht i (Yl.2 hi)
     split at ht
     · rename_i o ho
       rw [yc] at ho
       have ho':all.toArray[i]? =some o:=by simpa using ho
       obtain⟨st',hn',_,⟨hw,h1⟩|⟨hw,h1⟩⟩:=ru ht hn
       · unfold wpOp
         simp only [ho'];rw [if_pos hw];refine .inl (OpOk.wp3 (zjZ hT h1 hn') (fun st2 v w2 hR hN=> ?_) fun c st2 v w2 hR hx=> ?_)
         · exact⟨Kept.held hN,ih (Ur hc hi) hR hN ((vH _ _ _).trans he) (QM hE o.dst v)⟩
         · obtain⟨S,K,hH,hE3,hm⟩:=hx
           obtain⟨K',hb,hH2⟩:=h.merge hH
           exact⟨c,_,hkq _ _ hR,rfl,S,K',v,hH2,by rw [hb];exact⟨hE3.size,hE3.defers,fun t d hd=>by cases hd⟩,rfl,by rw [hb];exact hm⟩
       · unfold wpOp
         simp only [ho']
         rw [if_neg (by rw [hw];simp)]
         obtain⟨S,K,hH,hE2⟩:=hn';have hN:=Now.put hH hE2 o.dst (d:=.tup []) (v:=undef) ⟨[],trivial,rfl⟩;exact⟨Kept.held hN,ih (Ur hc hi) h1 hN ((vH _ _ _).trans he) (QM hE o.dst _)⟩
     · exact ht.elim
theorem vG {tI:List Nat}: ∀ {l:List Nat} {st:St},Now X st a w→Now X (qZ tI l st) a w
 |[],st,h=>h
 | t ::r,st,h=>by
   simp only [qZ]
   split
   · split
     · exact vG h
     · exact vG (sW h)
   · exact vG h
theorem um {tI:List Nat}: ∀ {l:List Oper} {st:St},Now X st a w→Now X (qx tI l st) a w
 |[],st,h=>h
 |o::r,st,h=>um (l:=r) (vG h)
theorem zfb (hT:T.fits Pr) {cfg:Cfg} {all:List Oper} (hsel:Region.noSelect all.toArray=true) {k:St→Tree} {kq:C→St→Tree} {R:AEx→St→Prop} (hkq: ∀ c st,(kq c st).ok Pr Y G→R (.pan c) st) (hk: ∀ st,(k st).ok Pr Y G→R .normal st) {gs:List Nat}:
  ∀ {m n:Nat} {listed:Array Bool} {st:St} {a:Act} {w:World},Clo all listed→(mixP alg T cfg all (Zt all) gs kq k m n listed st).ok Pr Y G→Now X st a w→wpAny Pr .any all.toArray (MixQ X R) n listed a w:=by
 intro m
 induction m with
 |zero=>intro n listed st a w _ ht;exact ht.elim
 | succ m ih=>
   intro n listed st a w hc ht hn;simp only [mixP,za9,zhv,zhs,TR,Zd,vw] at ht
   split at ht
   · rename_i hr
     have hr:=U0 hr
     have hQ:MixQ X R .normal a w:=by
      obtain⟨S,K,hH,hE⟩:=hn;exact⟨.normal,_,hk _ ht,S,K,hH,hE,trivial⟩
     cases n with
     |zero=>exact⟨hr,hQ⟩
     |succ n=>exact⟨fun _=>hQ,fun i hi=>by rw [hr] at hi;cases hi⟩
   generalize zb7 (Zt all) all.length listed gs=b at ht
   have hpre: ∀ i,i<all.length→(∀ l,zi3 (Zt all) all.length b=some l→i ∈ l)→b≠i→Before all b i:=by
    intro i hi hl hne;unfold zi3 at hl;simp only [vw] at hl
    cases hb:Nat.blt b all.length with
    |true=>rw [hb] at hl;exact zbC hne (by have:=hl _ rfl;rw [ziE,Vx] at this;exact this)
    |false=>exact zfF (by have: ¬ b<all.length:=(by rw [← Nat.blt_eq,hb];simp);omega) hi
   generalize zi3 (Zt all) all.length b=pre at ht hpre;generalize Rk pre b 0 listed.toList all=ops at ht
   have hn0:Now X (Qc gs ops st) a w:=by
    unfold Qc
    split
    · exact hn
    · exact um hn
   generalize Qc gs ops st=st0 at ht hn0;have hn1:=um (tI:=zdd T ops st0) (l:=ops) hn0;generalize qx (zdd T ops st0) ops st0=st1 at ht hn1;generalize zaM (zdd T ops st0) 0 st1.hp=qs at ht
   split at ht
   · rename_i os hpr hto
     obtain⟨S,K,hH,hE⟩:=hn1;obtain⟨Cs,K',h1,h2,h3,h4,h5,h6,h7⟩:=wL hto rfl hH.2.2.1 hH.2.2.2;have hkept:Kept X S (K.map CO.base) qs os Cs:=⟨hH.1,hH.2.1,h4,h5,h6,h7⟩
     have hN:Now (Kept.ctx X S (K.map CO.base) Cs) { st1 with hp:=hpr} a w:=⟨S,K',⟨Frz.le.refl S,by rw [h1];exact Ext.refl _,by rw [h1];exact h2,h3⟩,by rw [h1];exact⟨hE.size,hE.defers,hE.slots⟩⟩
     have hl:hpr.length=(K.map CO.base).length:=by rw [← h1,List.length_map];exact h2.1
     exact UL _ _ _ _ (zfa hT hkept hl hsel hkq hk hpre (fun hc ht hn=>ih hc ht hn) hc ht hN rfl ⟨hE.size,hE.defers,hE.slots⟩)
   · exact ht.elim
theorem zgV (hT:T.fits Pr) (hm:Pr.follows .mixedOrders=true) {cfg:Cfg} {id:Nat} {all:List Oper} {k:St→Tree} {st:St} {kq:C→St→Tree} {R:AEx→St→Prop} (hkq: ∀ c st,(kq c st).ok Pr Y G→R (.pan c) st) (hk: ∀ st,(k st).ok Pr Y G→R .normal st) (ht:(mix alg T cfg all kq k st).ok Pr Y G) (hn:Now X st a w):
  (Code.region id all.toArray true).wp Pr (Post X R) a w:=by
 unfold mix at ht
 split at ht
 case h_2=>exact ht.elim
 rename_i hsel;simp only [za5,vw] at ht
 have hfl:(⟨zbu all⟩:Array Bool)=Array.replicate all.length false:=by
  have: ∀ l:List Oper,zbu l=List.replicate l.length false:=by
   intro l
   induction l with
   |nil=>rfl
   |cons o r ih=>simp only [zbu,ih,je,List.replicate_succ]
  rw [this];simp
 rw [hfl] at ht
 have hn1:Now X st a w.drew:=by
  obtain⟨S,K,hH,hE⟩:=hn;exact⟨S,K,⟨hH.1,hH.2.1,hH.2.2.1,hH.2.2.2.drew⟩,hE⟩
 refine wp_mono (Q:=MixQ X R) (wp_region_any hm ?_) fun e a' w' he=> ?_
 · simpa using zfb hT hsel hkq hk (zjW all) ht hn1
 · cases e with
   | panic ch=>
     obtain⟨c,st',h1,_,S,K,v,h3,h4,h5,h6⟩:=he;exact⟨.pan c,st',h1,S,K,h3,h4,v,h5,h6⟩
   |normal=>exact he
   |_=>exact he.elim
end
theorem Now.drew {st:St} (hn:Now X st a w):Now X st a w.drew:=by
 obtain⟨S,K,hH,hE⟩:=hn;exact⟨S,K,⟨hH.1,hH.2.1,hH.2.2.1,hH.2.2.2.drew⟩,hE⟩
theorem Vj {ks:List Nat}: ∀ {e:List (Nat × D)} {t:Nat} {d:D},look (Tz ks e) t=some d→look e t=some d
 |[],t,d,h=>h
 | (s, d0) ::r,t,d,h=>by
   simp only [Tz] at h;rw [xw]
   split at h
   · rw [xw] at h
     split
     · rename_i hst;rw [if_pos hst] at h;exact h
     · rename_i hst;rw [if_neg hst] at h;exact Vj h
   · rename_i hm
     have h1:=Vj h
     split
     · rename_i hst
       subst hst;exfalso;clear h1
       induction r with
       |nil=>cases h
       | cons p r ih=>
         obtain⟨s',d'⟩:=p;simp only [Tz] at h
         split at h
         · rename_i hm2
           rw [xw] at h
           split at h
           · rename_i e;subst e;rw [hm] at hm2;cases hm2
           · exact ih h
         · exact ih h
     · exact h1
theorem Now.tidy {st:St} (hn:Now X st a w) (ks:Option (List Nat)):Now X (st.tidy ks) a w:=by
 cases ks with
 |none=>exact hn
 |some l=>obtain⟨S,K,hH,hE⟩:=hn;exact⟨S,K,hH,hE.size,hE.defers,fun t d hd=>hE.slots t d (Vj hd)⟩
theorem zb0 (hT:T.fits Pr) (hm:Pr.follows .mixedOrders=true) {cfg:Cfg} {id:Nat} {ops:Array Oper} {draw:Bool} {K:AEx→St→Tree} {st:St}
  (h:(zkH alg T cfg ops draw K st).ok Pr X G) (hn:Now X st a w):(Code.region id ops draw).wp Pr (Post X fun e st'=>(K e st').ok Pr X G) a w:=by
 cases draw with
 |false=>exact wp_region_list (by simpa using tN hT (R:=fun e st'=>(K e st').ok Pr X G) (fun _ h=>h) (fun _ _ h=>h) h hn)
 | true=>
   obtain⟨l,rfl⟩: ∃ l:List Oper,ops=l.toArray:=⟨ops.toList,by simp⟩
   simp only [zkH,List.toList_toArray] at h
   split at h
   · exact zgV hT hm (R:=fun e st'=>(K e st').ok Pr X G) (fun _ _ h=>h) (fun _ h=>h) h hn
   rename_i hB;refine wp_region_still_tail (Yn T l) hm hB ?_;rw [zc4,zes] at h;exact qh hT (fun st2 a2 h2 hn2=>tN hT (R:=fun e st'=>(K e st').ok Pr X G) (fun _ h=>h) (fun _ _ h=>h) h2 hn2) h hn.drew
theorem UZ (hT:T.fits Pr) (hm:Pr.follows .mixedOrders=true) {cfg:Cfg} {id:Nat} {ops:Array Oper} {draw:Bool} {K:AEx→St→Tree} {st:St}
  (h:(regT alg T cfg ops draw K st).ok Pr X G) (hn:Now X st a w):(Code.region id ops draw).wp Pr (Post X fun e st'=>(K e st').ok Pr X G) a w:=by
 refine wp_mono (zb0 hT hm (id:=id) h hn) fun e a' w' ⟨e',st',h1,S,L,hH,hE,hem⟩=> ?_;obtain⟨K',hb,hH2,hE2⟩:=zbz hH hE
 exact⟨e',_,h1,S,K',hH2,hE2,by rw [hb];exact hem⟩
theorem zcV (hT:T.fits Pr) (hm:Pr.follows .mixedOrders=true) {cfg:Cfg}: ∀ {c:Code} {K:AEx→St→Tree} {st:St} {a:Act} {w:World},
  (vc alg T cfg c K st).ok Pr X G→Now X st a w→c.wp Pr (Post X fun e st'=>(K e st').ok Pr X G) a w:=by
 intro c
 induction c with
 |skip=>intro K st a w h ⟨S,L,hH,hE⟩;exact wp_skip ⟨.normal,st,h,S,L,hH,hE,trivial⟩
 | region id ops draw=>
   intro K st a w h hn;simp only [vc] at h
   split at h
   · obtain⟨S,L,hH,hE⟩:=hn.tidy cfg.keep;exact h S L a w hH hE
   · exact UZ hT hm h (hn.tidy cfg.keep)
 | seq x y ihx ihy=>
   intro K st a w h hn;refine wp_seq (wp_mono (ihx h hn) fun e a' w' hq=> ?_);obtain⟨e',st',h1,S,L,hH,hE,hem⟩:=hq
   cases e with
   | normal=>cases e' with
     |normal=>exact ihy h1 ⟨S,L,hH,hE⟩
     |exit i=>exact hem.elim
     |ret=>exact hem.elim
     |pan c=>exact hem.elim
   | exit i=>cases e' with
     |exit j=>exact⟨.exit j,st',h1,S,L,hH,hE,hem⟩
     |normal=>exact hem.elim
     |ret=>exact hem.elim
     |pan c=>exact hem.elim
   |goto l=>cases e'<;>exact hem.elim
   | ret=>cases e' with
     |ret=>exact⟨.ret,st',h1,S,L,hH,hE,hem⟩
     |normal=>exact hem.elim
     |exit j=>exact hem.elim
     |pan c=>exact hem.elim
   | panic ch=>cases e' with
     |pan c=>exact⟨.pan c,st',h1,S,L,hH,hE,hem⟩
     |normal=>exact hem.elim
     |exit j=>exact hem.elim
     |ret=>exact hem.elim
   |outgrown=>cases e'<;>exact hem.elim
 | cond c t e iht ihe=>
   intro K st a w h hn;obtain⟨st',h1,h2,_⟩:=wM h hn
   split at h1
   · rename_i hc
     obtain⟨S,L,hH,hE⟩:=h2;have hm:=(hH.sit hT hE).one hc;generalize hv:a.eval c=v at hm;cases hm;exact wp_cond_true hv (iht h1 ⟨S,L,hH,hE⟩)
   · rename_i hc
     obtain⟨S,L,hH,hE⟩:=h2;have hm:=(hH.sit hT hE).one hc;generalize hv:a.eval c=v at hm;cases hm;exact wp_cond_false hv (ihe h1 ⟨S,L,hH,hE⟩)
   · exact h1.elim
 | block id b ih=>
   intro K st a w h hn;refine wp_block (wp_mono (ih h hn) fun e a' w' hq=> ?_);obtain⟨e',st',h1,S,L,hH,hE,hem⟩:=hq
   cases e with
   | normal=>cases e' with
     |normal=>exact⟨.normal,st',h1,S,L,hH,hE,trivial⟩
     |exit i=>exact hem.elim
     |ret=>exact hem.elim
     |pan c=>exact hem.elim
   | exit i=>cases e' with
     | exit j=>
       have hem:i=j:=hem;subst hem;simp only [Exit.inBlock]
       have h1:(match Nat.beq i id with|true=>K .normal st'|false=>K (.exit i) st').ok Pr X G:=h1
       split at h1
       · rename_i hb
         have hb:=jH hb;rw [if_pos hb];exact⟨.normal,st',h1,S,L,hH,hE,trivial⟩
       · rename_i hb
         rw [if_neg (fun e=>by subst e;rw [Nat.beq_refl] at hb;cases hb)]
         exact⟨.exit i,st',h1,S,L,hH,hE,rfl⟩
     |normal=>exact hem.elim
     |ret=>exact hem.elim
     |pan c=>exact hem.elim
   |goto l=>cases e'<;>exact hem.elim
   | ret=>cases e' with
     |ret=>exact⟨.ret,st',h1,S,L,hH,hE,hem⟩
     |normal=>exact hem.elim
     |exit j=>exact hem.elim
     |pan c=>exact hem.elim
   | panic ch=>cases e' with
     |pan c=>exact⟨.pan c,st',h1,S,L,hH,hE,hem⟩
     |normal=>exact hem.elim
     |exit j=>exact hem.elim
     |ret=>exact hem.elim
   |outgrown=>cases e'<;>exact hem.elim
 |loop b _=>intro K st a w h hn;obtain⟨S,L,hH,hE⟩:=hn.tidy cfg.keep;exact h S L a w hH hE
 |exit id=>intro K st a w h ⟨S,L,hH,hE⟩;exact wp_exit ⟨.exit id,st,h,S,L,hH,hE,rfl⟩
 |ret=>intro K st a w h ⟨S,L,hH,hE⟩;exact wp_ret ⟨.ret,st,h,S,L,hH,hE,trivial⟩
 |_=>intro K st a w h _;exact h.elim
end
end Go.Ab
namespace Go.Ab
open Go Go.Sep
variable [Facts]
def fresh:List Nat→List Nat→List Nat
 |seen,[]=>seen
 |seen,k::ks=>match memN k seen with|true=>fresh seen ks|false=>fresh (seen++[k]) ks
def zkZ:V0→V0
 |.one c=>.one (Qd c)
 |.agg cs=>.agg (cs.map Qd)
def AOut.refs:AOut→List Nat
 |.ret d=>ziY d
 |.pan c=>UE [c]
def AOut.ren (f:Nat→Option Nat):AOut→AOut
 |.ret d=>.ret (d.ren f)
 |.pan c=>.pan (c.ren f)
def finT (sl:List SlE) (k0:Nat) (o:AOut) (st:St):Tree:=
 let st1:=shutAll sl (upto 0 k0++o.refs) st
 let q:=fresh (upto 0 k0) (o.refs++gather st1.hp 200 (upto 0 k0++o.refs) [])
 match uh q st1.hp with
 |some (os,_)=>.fin (o.ren fun x=>idx x q 0) (os.map (HO.ren fun x=>idx x q 0))
 |none=>.stop 13
def Wi (I:Alg) (T:Tab) (t ty:Nat) (st:St):St:=
 match look st.env t with
 | some d=>
   let st1:=y7 I (zeX d) st
   match look st1.env t,T ty with
   |some (.v (.one c)),some ⟨_,_,_,some z,_⟩=>(match uY z [c] with|some [p]=>st1.put (some t) (.v (.one (.p p)))|_=>st1)
   |some (.v (.agg cs)),some ⟨_,_,_,some z,_⟩=>(match uY z cs with|some ps=>st1.put (some t) (.v (.agg (ps.map C.p)))|_=>st1)
   |_,_=>st1
 |none=>st
def zmq:Option D→Bool
 |some (.v (.agg _))=>true
 |_=>false
def ul (I:Alg) (T:Tab) (rl:List Nat):Nat→List ResultVar→List Nat→St→St
 |i,.tmp t::r,ty::tys,st=>ul I T rl (i+1) r tys (match memN i rl,zmq (look st.env t) with|false,false=>Vk T t ty st|_,_=>Wi I T t ty st)
 |i,.cell _ _::r,_::tys,st=>ul I T rl (i+1) r tys st
 |_,_,_,st=>st
def retT (I:Alg) (T:Tab) (raw:Bool) (sl:List SlE) (k0:Nat):List ResultVar→List V0→St→Tree
 |[],acc,st=>finT sl k0 (.ret (match acc with|[x]=>.v x|l=>.tup l)) st
 | .tmp t::r,acc,st=>match look st.env t with
   |some (.v x)=>retT I T raw sl k0 r (acc++[zkZ x]) st
   |_=>.stop 14
 | .cell t ty::r,acc,st=>
   (qop I T (tq st (.tmp t)) (.load ty (.tmp t))).tree fun d0=>
    let st1:=y7 I (zeX d0) (tq st (.tmp t))
    (qop I T st1 (.load ty (.tmp t))).tree fun d=>match raw,d,T ty with
     | false,.v (.agg cs),some ⟨_,_,_,some z,_⟩=>(match uY z cs with
       |some ps=>retT I T raw sl k0 r (acc++[.agg ((ps.map C.p).map Qd)]) st1
       |none=>.stop 15)
     |_,.v x,_=>retT I T raw sl k0 r (acc++[zkZ x]) st1
     |_,_,_=>.stop 18
def renE (f:Nat→Option Nat):List (Nat × D)→List (Nat × D)
 |[]=>[]
 |(t,d)::r=>(t,d.ren f)::renE f r
def mvF (k n:Nat) (i:Nat):Option Nat:=match Nat.beq i k with|true=>some n|false=>some i
def moveRow (k:Nat) (st:St):St:=
 match nth st.hp k with
 |some (.row u E l)=> { st with env:=renE (mvF k st.hp.length) st.env,hp:=setN (st.hp.map (HO.ren (mvF k st.hp.length))) k .gone++[.row u E l]}
 |_=>st
def ZG:List Nat→St→St
 |[],st=>st
 |k::ks,st=>ZG ks (moveRow k st)
def zjO (I:Alg) (T:Tab) (cfg:Cfg) (k0:Nat) (fn:Func):AEx→St→Tree
 |.normal,st=>retT I T cfg.raw cfg.fsl k0 fn.results.toList [] (ul I T cfg.rl 0 fn.results.toList fn.resultTypes.toList (ZG cfg.mv st))
 |.ret,st=>retT I T cfg.raw cfg.fsl k0 fn.results.toList [] (ul I T cfg.rl 0 fn.results.toList fn.resultTypes.toList (ZG cfg.mv st))
 |.pan c,st=>finT cfg.fsl k0 (.pan c) st
 |.exit _,_=>.stop 16
def finK (I:Alg) (T:Tab) (cfg:Cfg) (k0:Nat) (fn:Func) (e:AEx) (st:St):Tree:=
 match st.df with
 |none=>zjO I T cfg k0 fn e st
 |some _=>.stop 90
def UI:Nat→List D→List (Nat × D)
 |_,[]=>[]
 |n,d::ds=>(n,d)::UI (n+1) ds
def funT (I:Alg) (T:Tab) (cfg:Cfg) (fn:Func) (args:List D) (hp:List HO):Tree:=
 match fn.body with
 |some c=>vc I T cfg c (finK I T cfg hp.length fn) { env:=UI 0 args,hp:=hp,n:=fn.ntmps}
 |none=>.stop 17
def VK (env:List (Nat × D)):List Nat→Option (List (Nat × D))
 |[]=>some []
 |t::ts=>match look env t,VK env ts with|some d,some r=>some ((t,d)::r)|_,_=>none
def zk0:List (Nat × D)→List (Nat × D)
 |[]=>[]
 |(t,d)::r=>(t,zgO d)::zk0 r
def St.cut (sl:List SlE) (k0:Nat) (dom:List Nat) (st:St):Option St:=
 match(match st.df with|none=>VK st.env dom|some _=>none) with
 |none=>none
 | some e=>
   let st1:=shutAll sl (upto 0 k0++zgf e) st
   let q:=fresh (upto 0 k0) (zgf e++gather st1.hp 200 (upto 0 k0++zgf e) [])
   match uh q st1.hp with
   |some (os,_)=>some { env:=renE (fun x=>idx x q 0) (zk0 e),hp:=os.map (HO.ren fun x=>idx x q 0),n:=st.n}
   |none=>none
section
variable {Pr:Program} {T:Tab} {X:Ctx} {G:AOut→List HO→Prop} {a:Act} {w:World}
theorem zcW: ∀ (m n k:Nat),k<m→(upto n m)[k]? =some (n+k)
 |m+1,n,0,_=>by simp [upto]
 | m+1,n,k+1,h=>by
   simp only [upto,List.getElem?_cons_succ]
   rw [zcW m (n+1) k (by omega)]
   congr 1;omega
theorem qC: ∀ (ks seen:List Nat),∃ r,fresh seen ks=seen++r
 |[],seen=>⟨[],by simp [fresh]⟩
 | k ::ks,seen=>by
   simp only [fresh]
   split
   · exact qC ks seen
   · obtain⟨r,h⟩:=qC ks (seen++[k])
     exact⟨k::r,by rw [h];simp⟩
theorem upto_length: ∀ (m n:Nat),(upto n m).length=m
 |0,_=>rfl
 |m+1,n=>by simp [upto,upto_length m]
theorem za2 {k0 k:Nat} {ks:List Nat} (h:k<k0):(fresh (upto 0 k0) ks)[k]? =some k:=by
 obtain⟨r,hr⟩:=qC ks (upto 0 k0)
 rw [hr,jw (by rw [upto_length];exact h),zcW k0 0 k h]
 simp
theorem zdm {st:St} {q:List Nat} {os hpr:List HO} {k0:Nat} (hk:X.bs0.length=k0) (hq: ∀ k,k<k0→q[k]? =some k) (ht:uh q st.hp=some (os,hpr)) {S:Frz} {K:List CO} (hH:Heap X st.hp S K w):
  ∃ Cs,Heap X (os.map (HO.ren fun x=>idx x q 0)) S Cs w∧∀ (i j:Nat) (v:Value),idx i q 0=some j→(K.map CO.base)[i]? =some v→(Cs.map CO.base)[j]? =some v:=by
 obtain⟨Cs,K',h1,h2,h3,h4,h5,h6,h7⟩:=wL ht rfl hH.2.2.1 hH.2.2.2
 have hf: ∀ (i j:Nat) (v:Value),idx i q 0=some j→(K.map CO.base)[i]? =some v→(Cs.map CO.base)[j]? =some v:=by
  intro i j v e1 e2;obtain⟨_,e3⟩:=Qi e1;simp only [Nat.sub_zero] at e3
  have hjl:j<Cs.length:=by rw [h4,h5];exact(jh.1 e3).1
  have:=h6 j i _ e3 (ji hjl);rw [e2] at this;cases this;rw [List.getElem?_map,ji hjl];rfl
 refine⟨Cs,⟨hH.1,fun k v hv=> ?_,?_,?_⟩,hf⟩
 · have hk2:k<k0:=by rw [← hk];exact(jh.1 hv).1
   have hqk:=hq k hk2
   have hkl:k<Cs.length:=by rw [h4,h5];exact(jh.1 hqk).1
   have:=h6 k k _ hqk (ji hkl);rw [hH.2.1 k v hv] at this;cases this;rw [List.getElem?_map,ji hkl];rfl
 · refine⟨by simp [h4],fun i o c e1 e2=> ?_⟩
   rw [List.getElem?_map,Option.map_eq_some_iff] at e1;obtain⟨o',e3,rfl⟩:=e1;exact HO.yg (fun i j v e4 e5=>hf i j v e4 e5) (h7 i o' c e3 e2)
 · obtain⟨F,A,B,e,dj,hfz,hrest⟩:=h3
   obtain⟨A2,B2,e2,dj2,_,hr2⟩:=Xf.1 hrest;exact⟨fun k=>A k∨B2 k,A,B2,fun _=>Iff.rfl,fun k hA hB=>dj k hA ((e2 k).2 (.inr hB)),hfz,hr2⟩
theorem VF {S:Frz} {bs:List Value} {x:V0} {v:Value} (h:MV S bs x v):MV S bs (zkZ x) v:=by
 cases x with
 |one c=>exact xh _ _ h
 |agg cs=>obtain⟨vs,h1,h2⟩:=h;exact⟨vs,h1.map xh,h2⟩
theorem MVs.snoc {S:Frz} {bs:List Value}: ∀ {l:List V0} {vs:List Value} {x:V0} {v:Value},MVs S bs l vs→MV S bs x v→MVs S bs (l++[x]) (vs++[v])
 |[],[],_,_,_,h=>⟨h,trivial⟩
 |_::_,_::_,_,_,h,k=>⟨h.1,MVs.snoc h.2 k⟩
theorem MVs.length {S:Frz} {bs:List Value}: ∀ {l:List V0} {vs:List Value},MVs S bs l vs→vs.length=l.length
 |[],[],_=>rfl
 |_::_,_::_,h=>congrArg (· +1) (MVs.length h.2)
def Ends (X:Ctx) (G:AOut→List HO→Prop) (w:World) (e:Ending):Prop:=∃ o hp S K,G o hp∧Heap X hp S K w∧EOut S (K.map CO.base) o e
theorem XF {sl:List SlE} {st:St} (ks:List Nat) {S:Frz} {K:List CO} (hH:Heap X st.hp S K w) (hE:Env S (K.map CO.base) st a):
  ∃ K',Ext (K.map CO.base) (K'.map CO.base)∧Heap X (shutAll sl ks st).hp S K' w∧Env S (K'.map CO.base) (shutAll sl ks st) a:=by
 induction ks generalizing st K with
 |nil=>exact⟨K,Ext.refl _,hH,hE⟩
 | cons k ks ih=>
   obtain⟨K1,h1,h2,h3⟩:=Xe (sl:=sl) hH hE k;obtain⟨K2,h4,h5,h6⟩:=ih h2 h3;exact⟨K2,h1.trans h4,h5,h6⟩
theorem EOut.mono {S S':Frz} (hle:S.le S') {bs bs':List Value} (he:Ext bs bs') {o:AOut} {e:Ending} (h:EOut S bs o e):EOut S' bs' o e:=by
 cases o with
 | ret d=>cases e with
   |returned v=>exact MD.mono hle he h
   |panicked ch=>exact h.elim
   |outgrown=>exact h.elim
 | pan c=>cases e with
   |returned v=>exact h.elim
   |panicked ch=>obtain⟨v,h1,h2⟩:=h;exact⟨v,h1,h2.mono hle he⟩
   |outgrown=>exact h.elim
theorem UD {t ty:Nat} {st:St} {S:Frz} {K:List CO} (hH:Heap X st.hp S K w) (hE:Env S (K.map CO.base) st a): ∃ S' K',Heap X (Wi alg T t ty st).hp S' K' w∧Env S' (K'.map CO.base) (Wi alg T t ty st) a:=by
 unfold Wi
 split
 · rename_i d hd
   obtain⟨S1,K1,_,_,h3,h4⟩:=yR hH hE (zeX d);simp only
   split
   · rename_i c e1 e2 e3 z e4 hl hT
     split
     · rename_i p hp
       refine⟨S1,K1,by rw [vH];exact h3,h4.note t ?_⟩
       exact(yT hp (vs:=[a.tmps.getD t undef]) ⟨h4.slots t _ hl,trivial⟩).1
     · exact⟨S1,K1,h3,h4⟩
   · rename_i cs e1 e2 e3 z e4 hl hT
     split
     · rename_i ps hp
       refine⟨S1,K1,by rw [vH];exact h3,h4.note t ?_⟩
       obtain⟨vs,h5,h6⟩:=h4.slots t _ hl;exact⟨vs,(yT hp h5).mcs,h6⟩
     · exact⟨S1,K1,h3,h4⟩
   · exact⟨S1,K1,h3,h4⟩
 · exact⟨S,K,hH,hE⟩
theorem uM {rl:List Nat}: ∀ {rs:List ResultVar} {tys:List Nat} {i:Nat} {st:St} {S:Frz} {K:List CO},Heap X st.hp S K w→Env S (K.map CO.base) st a→∃ S' K',Heap X (ul alg T rl i rs tys st).hp S' K' w∧Env S' (K'.map CO.base) (ul alg T rl i rs tys st) a
 |[],tys,i,st,S,K,hH,hE=>⟨S,K,by unfold ul;exact hH,by unfold ul;exact hE⟩
 |.tmp t::r,[],i,st,S,K,hH,hE=>⟨S,K,by unfold ul;exact hH,by unfold ul;exact hE⟩
 |.cell t ty::r,[],i,st,S,K,hH,hE=>⟨S,K,by unfold ul;exact hH,by unfold ul;exact hE⟩
 | .cell t ty::r,ty'::tys,i,st,S,K,hH,hE=>by
   unfold ul;exact uM hH hE
 | .tmp t::r,ty::tys,i,st,S,K,hH,hE=>by
   unfold ul
   split
   · obtain⟨K',h1,h2⟩:=Z8 (T:=T) (t:=t) (ty:=ty) hH hE;exact uM h1 h2
   · obtain⟨S',K',h1,h2⟩:=UD (T:=T) (t:=t) (ty:=ty) hH hE;exact uM h1 h2
theorem SE {sl:List SlE} {k0:Nat} (hk:X.bs0.length=k0) {o:AOut} {st:St} (h:(finT sl k0 o st).ok Pr X G) {S:Frz} {K:List CO} (hH:Heap X st.hp S K w) (hE:Env S (K.map CO.base) st a) {e:Ending} (he:EOut S (K.map CO.base) o e):Ends X G w e:=by
 unfold finT at h;simp only at h;obtain⟨K1,hb,hH1,hE1⟩:=XF (sl:=sl) (upto 0 k0++o.refs) hH hE
 split at h
 · rename_i os hpr ht
   obtain⟨Cs,hH2,hf⟩:=zdm hk (fun k hk2=>za2 hk2) ht hH1;refine⟨_,_,S,Cs,h,hH2,?_⟩;have he:=he.mono (Frz.le.refl S) hb
   cases o with
   | ret d=>cases e with
     |returned v=>exact D.yg hf d v he
     |panicked ch=>exact he.elim
     |outgrown=>exact he.elim
   | pan c=>cases e with
     |returned v=>exact he.elim
     |panicked ch=>obtain⟨v,h1,h2⟩:=he;exact⟨v,h1,C.yg hf c v h2⟩
     |outgrown=>exact he.elim
 · exact h.elim
def Yk (tmps:Array Value):ResultVar→Sem Value
 |.tmp t=>pure (tmps.getD t undef)
 |.cell a t=>do loadVar t (← asAddr (tmps.getD a undef))
theorem qN (hT:T.fits Pr) {raw:Bool} {sl:List SlE} {k0:Nat} (hk:X.bs0.length=k0): ∀ {rs:List ResultVar} {acc:List V0} {st:St} {us:List Value},(retT alg T raw sl k0 rs acc st).ok Pr X G→
  (∃ S K,Heap X st.hp S K w∧Env S (K.map CO.base) st a∧MVs S (K.map CO.base) acc us)→
  ∃ vs:List Value,(rs.mapM (Yk a.tmps)).run Pr w=.ok vs w∧Ends X G w (.returned (if h:(us++vs).toArray.size=1 then(us++vs).toArray[0] else .tuple (us++vs).toArray))
 | [], acc,st,us,h,⟨S,K,hH,hE,hm⟩=>by
   refine⟨[],rfl,?_⟩;simp only [List.append_nil];unfold retT at h;refine SE hk h hH hE ?_;have hl:=hm.length
   split
   · rename_i x
     cases us with
     |nil=>exact hm.elim
     | cons u us=>cases us with
       |nil=>exact hm.1
       |cons _ _=>exact hm.2.elim
   · rename_i hne
     rw [dif_neg]
     · exact⟨us,hm,rfl⟩
     · intro h1
       have h2:us.length=1:=by simpa using h1
       rw [hl] at h2
       cases acc with
       |nil=>cases h2
       | cons x acc=>cases acc with
         |nil=>exact hne x rfl
         |cons _ _=>simp at h2
 | .tmp t::r,acc,st,us,h,⟨S,K,hH,hE,hm⟩=>by
   unfold retT at h
   split at h
   · rename_i x hx
     obtain⟨vs,h1,h2⟩:=qN hT hk (us:=us++[a.tmps.getD t undef]) h ⟨S,K,hH,hE,hm.snoc (VF (hE.slots t _ hx))⟩;refine⟨a.tmps.getD t undef::vs,?_,?_⟩
     · simp only [List.mapM_cons,Yk,Sem.run_bind,Sem.run_pure,Result.andThen_ok,h1]
     · simpa [jk] using h2
   · exact h.elim
 | .cell t ty::r,acc,st,us,h,⟨S,K,hH,hE,hm⟩=>by
   unfold retT at h
   have hop: ∃ K',Ext (K.map CO.base) (K'.map CO.base)∧Heap X (tq st (.tmp t)).hp S K' w∧Env S (K'.map CO.base) (tq st (.tmp t)) a:=by
    unfold tq
    split
    · split
      · exact tZ hH hE _
      · exact tZ hH hE _
      · exact⟨K,Ext.refl _,hH,hE⟩
    · exact⟨K,Ext.refl _,hH,hE⟩
   obtain⟨K1,hex,hH1,hE1⟩:=hop;have hq0:=QR.xI h
   obtain⟨v0,d0,_,_,hq1⟩:=uj (hH1.sit hT hE1) ⟨none,.load ty (.tmp t),0, "",#[],none⟩ (W:=fun w'=>w'=w) (fun _=>Sit.cls (by first|exact hH1.sit hT hE1|exact hH2.sit hT hE2)) _ hq0
   simp only at hq1;obtain⟨S2,K2,hle2,hbs2,hH2,hE2⟩:=yR hH1 hE1 (zeX d0)
   have hm2:MVs S2 (K2.map CO.base) acc us:=by rw [hbs2];exact(hm.mono (Frz.le.refl S) hex).mono hle2 (Ext.refl _)
   have hq:=QR.xI hq1
   obtain⟨v,d,hy,hmd,hk2⟩:=uj (hH2.sit hT hE2) ⟨none,.load ty (.tmp t),0, "",#[],none⟩ (W:=fun w'=>w'=w) (fun _=>Sit.cls (by first|exact hH1.sit hT hE1|exact hH2.sit hT hE2)) _ hq
   have hl:(Yk a.tmps (.cell t ty)).run Pr w=.ok v w:=by
    have hy:=hy _ rfl;simp only [execOp,Instr.loadAt,Act.eval,Sem.run_bind] at hy;simp only [Yk,Sem.run_bind]
    cases hp:a.tmps.getD t undef with
    | pointer p=>cases p with
      |none=>rw [hp] at hy;simp [Instr.sureAddr] at hy
      | some p=>
        rw [hp] at hy;simp only [Instr.sureAddr,Sem.run_pure,Result.andThen_ok] at hy;simp only [asAddr,Sem.run_pure,Result.andThen_ok]
        cases hq:(loadVar ty p).run Pr w with
        |ok u w1=>rw [hq] at hy;simp at hy;rw [hy.1,hy.2]
        |halt q w1=>rw [hq] at hy;cases hy
    |_=>rw [hp] at hy;simp [Instr.sureAddr] at hy
   split at hk2
   · rename_i cs e1 e2 e3 z e4 hTy
     split at hk2
     · rename_i ps hps
       obtain⟨ws,h5,rfl⟩:=hmd;obtain⟨vs,h1,h2⟩:=qN hT hk (us:=us++[.agg ws.toArray]) hk2 ⟨S2,K2,hH2,hE2,hm2.snoc ⟨ws,((yT hps h5).mcs).map xh,rfl⟩⟩;refine⟨.agg ws.toArray::vs,?_,?_⟩
       · simp only [List.mapM_cons,hl,Sem.run_bind,Sem.run_pure,Result.andThen_ok,h1]
       · simpa [jk] using h2
     · exact hk2.elim
   · rename_i x _ _
     obtain⟨vs,h1,h2⟩:=qN hT hk (us:=us++[v]) hk2 ⟨S2,K2,hH2,hE2,hm2.snoc (VF hmd)⟩;refine⟨v::vs,?_,?_⟩
     · simp only [List.mapM_cons,hl,Sem.run_bind,Sem.run_pure,Result.andThen_ok,h1]
     · simpa [jk] using h2
   · exact hk2.elim
theorem Za {S:Frz} {bs:List Value}: ∀ {args:List D} {vs:List Value} {n t:Nat} {d:D},MDs S bs args vs→look (UI n args) t=some d→n≤t∧∃ v,vs[t - n]? =some v∧MD S bs d v
 |[],[],n,t,d,_,h=>by cases h
 | x ::args,v::vs,n,t,d,hm,h=>by
   simp only [UI,xw] at h
   split at h
   · rename_i ht;cases h;subst ht;exact⟨jK _,v,by simp,hm.1⟩
   · rename_i ht
     obtain⟨h1,v',h2,h3⟩:=Za hm.2 h
     refine⟨by omega,v',?_,h3⟩
     rw [show t - n=(t - (n+1))+1 by omega]
     simpa using h2
theorem MDs.length {S:Frz} {bs:List Value}: ∀ {l:List D} {vs:List Value},MDs S bs l vs→vs.length=l.length
 |[],[],_=>rfl
 |_::_,_::_,h=>congrArg (· +1) (MDs.length h.2)
theorem zaC {f:Nat→Option Nat}: ∀ {e:List (Nat × D)} {t:Nat} {d:D},look (renE f e) t=some d→∃ d',look e t=some d'∧d=d'.ren f
 |[],t,d,h=>by cases h
 | (s,d0)::r,t,d,h=>by
   simp only [renE] at h;rw [xw] at h ⊢
   split at h
   · rename_i hs;cases h;exact⟨d0,by rw [if_pos hs],rfl⟩
   · rename_i hs;obtain⟨d',h1,h2⟩:=zaC h;exact⟨d',by rw [if_neg hs];exact h1,h2⟩
theorem zb1 (q a:Chunk) (p r:List Chunk) (c:Chunk) (fr:List Chunk):(q::a::((p++c::r)++fr)).Perm (c::a::((p++q::r)++fr)):=by
 have h1:(q::a::((p++c::r)++fr)).Perm (q::c::a::((p++r)++fr)):=List.Perm.cons _ (zK a p r c fr);have h2:(c::a::((p++q::r)++fr)).Perm (c::q::a::((p++r)++fr)):=List.Perm.cons _ (zK a p r q fr);exact(h1.trans (List.Perm.swap _ _ _)).trans h2.symm
theorem Qe {st:St} {S:Frz} {K:List CO} (hH:Heap X st.hp S K w) (hE:Env S (K.map CO.base) st a) (k:Nat):
  ∃ K',Heap X (moveRow k st).hp S K' w∧Env S (K'.map CO.base) (moveRow k st) a:=by
 obtain⟨h1,h2,h3,h4⟩:=hH;unfold moveRow
 split
 · rename_i u E l ho
   rw [yc] at ho;obtain⟨c,hc,hr⟩:=h3.get ho;have hbk:=zS hc;obtain⟨p,r,hp1,hp2,hp3⟩:=yM hc;have hbs:(K.set k (.gone c.base)).map CO.base=K.map CO.base:=yw hc rfl
   have hb:((K.set k (.gone c.base))++[c]).map CO.base=K.map CO.base++[c.base]:=by rw [List.map_append,hbs];rfl
   have hlen:st.hp.length=(K.map CO.base).length:=by rw [h3.1,List.length_map]
   have hf: ∀ (i j:Nat) (v:Value),mvF k st.hp.length i=some j→(K.map CO.base)[i]? =some v→(K.map CO.base++[c.base])[j]? =some v:=by
    intro i j v e1 e2;unfold mvF at e1
    split at e1
    · rename_i hik
      have:=jH hik;subst this;cases e1;rw [hbk] at e2;cases e2;rw [hlen,jy (jK _)]
      simp
    · cases e1
      rw [jw (jh.1 e2).1];exact e2
   refine⟨(K.set k (.gone c.base))++[c],⟨h1,?_,?_,?_⟩,?_⟩
   · rw [hb];exact h2.trans (Ext.append _ _)
   · rw [hb]
     have hext:Ext (K.map CO.base) (K.map CO.base++[c.base]):=Ext.append _ _;refine HR.push ?_ (hr.mono (Frz.le.refl S) hext);rw [yE]
     refine HR.set ⟨by simp [h3.1],fun i o' c' e1 e2=> ?_⟩ k .gone
     rw [List.getElem?_map,Option.map_eq_some_iff] at e1;obtain⟨o0,e3,rfl⟩:=e1;exact HO.yg hf (h3.2 i o0 c' e3 e2)
   · have H:=h4
     rw [hp1,zA] at H;have H:=(At.void H).perm (zb1 _ _ _ _ _ _);refine At.more ?_;rw [hp3,zA];exact H
   · rw [hb]
     refine⟨hE.size,hE.defers.mono (Frz.le.refl S) (Ext.append _ _),fun t d hd=> ?_⟩;obtain⟨d',h5,rfl⟩:=zaC hd;exact D.yg hf _ _ (hE.slots t d' h5)
 · exact⟨K,⟨h1,h2,h3,h4⟩,hE⟩
theorem sZ {S:Frz}: ∀ (ks:List Nat) {st:St} {K:List CO},Heap X st.hp S K w→Env S (K.map CO.base) st a→∃ K',Heap X (ZG ks st).hp S K' w∧Env S (K'.map CO.base) (ZG ks st) a
 |[],st,K,hH,hE=>⟨K,hH,hE⟩
 | k::ks,st,K,hH,hE=>by
   obtain⟨K1,h1,h2⟩:=Qe hH hE k;exact sZ ks h1 h2
theorem zbp (hT:T.fits Pr) {fn:Func} {cfg:Cfg} {k0:Nat} (hk0:X.bs0.length=k0) {e:Exit} {e':AEx} {st':St} {S':Frz} {K':List CO} {out:AOut} {hp':List HO}
  (hk:(zjO alg T cfg k0 fn e' st').ok Pr X (fun o h=>o=out∧h=hp')) (hH:Heap X st'.hp S' K' w) (hE:Env S' (K'.map CO.base) st' a) (hem:EM S' (K'.map CO.base) e e'):
  match e with
  |.normal|.ret=>∃ v,(results fn a.tmps).run Pr w=.ok v w∧∃ S' K',X.S0.le S'∧Ext X.bs0 (K'.map CO.base)∧HR S' (K'.map CO.base) hp' K'∧At w (frzC S'::(CO.zl K'++X.fr))∧EOut S' (K'.map CO.base) out (.returned v)
  |.panic ch=>∃ S' K',X.S0.le S'∧Ext X.bs0 (K'.map CO.base)∧HR S' (K'.map CO.base) hp' K'∧At w (frzC S'::(CO.zl K'++X.fr))∧EOut S' (K'.map CO.base) out (.panicked ch)
  |_=>False:=by
 have fin: ∀ {rs},rs=fn.results.toList→(retT alg T cfg.raw cfg.fsl k0 rs [] (ul alg T cfg.rl 0 fn.results.toList fn.resultTypes.toList (ZG cfg.mv st'))).ok Pr X (fun o h=>o=out∧h=hp')→∃ v,(results fn a.tmps).run Pr w=.ok v w∧∃ S' K',X.S0.le S'∧Ext X.bs0 (K'.map CO.base)∧HR S' (K'.map CO.base) hp' K'∧At w (frzC S'::(CO.zl K'++X.fr))∧EOut S' (K'.map CO.base) out (.returned v):=by
  intro rs hrs hret;obtain⟨K9,hH,hE⟩:=sZ cfg.mv hH hE;obtain⟨S3,K3,hH3,hE3⟩:=uM (T:=T) (rl:=cfg.rl) (i:=0) (rs:=fn.results.toList) (tys:=fn.resultTypes.toList) hH hE;obtain⟨us,h1,o,hp2,S2,K2,⟨rfl,rfl⟩,hH2,heo⟩:=qN hT (k0:=k0) hk0 (us:=[]) hret ⟨S3,K3,hH3,hE3,trivial⟩;simp only [List.nil_append] at heo;refine⟨_,?_,S2,K2,hH2.1,hH2.2.1,hH2.2.2.1,hH2.2.2.2,heo⟩;subst hrs
  have key:results fn a.tmps=(do let vs ← fn.results.mapM (Yk a.tmps);pure (if h:vs.size=1 then vs[0] else .tuple vs)):=by
   unfold results
   congr 1
  rw [key,Array.mapM_eq_mapM_toList];simp only [Sem.run_bind,Sem.run_map,h1,Result.andThen_ok,Sem.run_pure]
 cases e with
 | normal=>cases e' with
   |normal=>exact fin rfl hk
   |exit j=>exact hem.elim
   |ret=>exact hem.elim
   |pan c=>exact hem.elim
 | ret=>cases e' with
   |ret=>exact fin rfl hk
   |normal=>exact hem.elim
   |exit j=>exact hem.elim
   |pan c=>exact hem.elim
 | panic ch=>cases e' with
   | pan c=>
     obtain⟨o,hp2,S2,K2,⟨rfl,rfl⟩,hH2,heo⟩:=SE (k0:=k0) hk0 hk hH hE (e:=.panicked ch) (o:=.pan c) hem;exact⟨S2,K2,hH2.1,hH2.2.1,hH2.2.2.1,hH2.2.2.2,heo⟩
   |normal=>exact hem.elim
   |exit j=>exact hem.elim
   |ret=>exact hem.elim
 | exit i=>cases e' with
   |exit j=>exact hk.elim
   |normal=>exact hem.elim
   |ret=>exact hem.elim
   |pan c=>exact hem.elim
 |goto l=>cases e'<;>exact hem.elim
 |outgrown=>cases e'<;>exact hem.elim
theorem zeS (hT:T.fits Pr) (hm:Pr.follows .mixedOrders=true) {f:Nat} {fn:Func} (hf:Pr.funcs[f]? =some fn) (hn:(fn.name == "runtime.NumGoroutine")=false) {cfg:Cfg} {args:List D} {hp:List HO} {out:AOut} {hp':List HO}
  (hsome:fn.body.isSome=true) (hle:Nat.ble args.length fn.ntmps=true) (h: ∀ (I:Alg) (X:Ctx),I=alg→X.bs0.length=hp.length→(funT I T cfg fn args hp).ok Pr X fun o h=>o=out∧h=hp'):Spc Pr f args hp out hp':=by
 have hbody: ∃ c,fn.body=some c:=Option.isSome_iff_exists.1 hsome;obtain⟨c,hc⟩:=hbody
 refine⟨⟨fn,hf,hn,by rw [hc];rfl⟩,fun S K fr w vs hHR hargs hat=> ?_⟩
 have hX:=h alg ⟨S,K.map CO.base,fr⟩ rfl (by simp [hHR.1])
 unfold funT at hX;rw [hc] at hX;have hal:=hargs.length;have hle:=Nat.le_of_ble_eq_true hle;refine calls_of_wp hf hc (wp_mono (zcV hT hm hX (X:=⟨S,K.map CO.base,fr⟩) ⟨S,K,⟨Frz.le.refl S,Ext.refl _,hHR,hat⟩,⟨?_,rfl,fun t d hd=> ?_⟩⟩) fun e a w' hq=> ?_)
 · simp [hal];omega
 · obtain⟨_,v,h1,h2⟩:=Za hargs hd
   simp only [Nat.sub_zero] at h1;have hlt:=(jh.1 h1).1
   have e:(vs.toArray++Array.replicate (fn.ntmps - vs.toArray.size) undef).getD t undef=v:=by
    rw [Array.getD_eq_getD_getElem?,Array.getElem?_append_left (by simpa using hlt)]
    simp [h1]
   rw [e];exact h2
 · obtain⟨e',st',hk,S',K',hH,hE,hem⟩:=hq
   unfold finK at hk
   split at hk
   case h_2=>exact hk.elim
   rename_i hdf
   have hd:a.defers=[]:=by have:=hE.defers;rw [hdf] at this;exact this
   have hfin:=zbp (X:=⟨S,K.map CO.base,fr⟩) hT (by simp [hHR.1]) hk hH hE hem
   cases e with
   |normal=>exact⟨hd,hfin⟩
   |ret=>exact⟨hd,hfin⟩
   |panic ch=>exact⟨hd,hfin⟩
   |exit i=>exact hfin.elim
   |goto l=>exact hfin.elim
   |outgrown=>exact hfin.elim
end
end Go.Ab
