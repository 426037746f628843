/- Texts of this proof, one behind the other: ReqB Num ReqA Splt Pfx ReqC ReqT ReqU ReqS SamF RplC ChkG ReqV. -/
import Derived.Lib.ItoaNum
import Derived.Lib.Split
import Derived.Lib.SplitLaws
import Derived.Test.YtmibhbdfigpkmaaGreatDoorMc
set_option linter.all false
namespace Go.Proofs.YtmibhbdfigpkmaaGreatDoor
open Go Go.Sep Go.Ab
set_option maxRecDepth 100000
structure RqI (q:Rq) (i:Nat):Prop where
  lb:q.ln.b.length≤i
  ck: ∀ c,q.ck=some c→ChI c i
  p3:q.pos=3→q.ck≠none
  ow:q.pos=0∨q.pos=1→q.own=true
  fl:q.h.fields.length≤16
  ff: ∀ f ∈ q.h.fields,f.name.length≤i∧f.value.length≤i
  l0:0≤q.left
  l1:q.left≤4000
  l2:q.pos=2→1≤q.left
  on:q.out.length≤4 * i
theorem zhW:RqI rq0 0:=⟨by decide,(fun c h=>by cases h),(fun h=>by cases h),fun _=>rfl,by decide,(fun f h=>by cases h),by decide,by decide,(fun h=>by cases h),by decide⟩
theorem zhV {q:Rq} {i j:Nat} (h:RqI q i) (k:i≤j):RqI q j:=by
  obtain⟨h1,h2,h3,h4,h5,h6,h7,h8,h9,h10⟩:=h
  exact⟨by omega,fun c e=>Qq (h2 c e) k,h3,h4,h5,fun f m=>by have:=h6 f m;omega,h7,h8,h9,by omega⟩
theorem zjr {q:Rq} {i:Nat} (h:RqI q i) {o:List Evt} (k:o.length≤4 * i):RqI { q with out:=o} i:=⟨h.lb,h.ck,h.p3,h.ow,h.fl,h.ff,h.l0,h.l1,h.l2,k⟩
theorem RV (mi:Int) (f:List Fld): -1≤(lenM mi f).1∧(lenM mi f).1≤4000:=by
  have hs: ∀ (l:List Str) (a:Str) (n:Int),0≤n→0≤(sizM a n l).1:=by
    intro l
    induction l with
    |nil=>intro a n h;exact h
    | cons s r ih=>
      intro a n h
      unfold sizM
      split
      · exact Int.le_refl _
      · split
        · exact Int.le_refl _
        · exact ih _ _ (ZG s).1
  unfold lenM
  repeat' split
  all_goals simp only
  all_goals first
    |decide
    |(have:=hs (valsF f wR) ((valsF f wR).getD 0 []) 0 (by decide);omega)
theorem zle (s:Str):(begM s).2.fields=[]:=by
  unfold begM
  split
  · repeat' split
    all_goals rfl
  · rfl
theorem zh4 {q:Rq} {i:Nat} (h:RqI q i) (k:Nat) (ho:q.out.length≤k):RqI { (yx q).1 with out:=[],pos:=4} i∧((yx q).2=0→RqI { (yx q).1 with out:=[]} i)∧(yx q).1.out.length≤k+2:=by
  have hl:=RV q.h.minor q.h.fields
  obtain⟨h1,h2,h3,h4,h5,h6,h7,h8,h9,h10⟩:=h
  unfold yx yU
  split
  · exact⟨⟨h1,h2,(fun h=>by cases h),(fun h=>by simp at h),h5,h6,h7,h8,(fun h=>by cases h),by simp⟩,(fun h=>by cases h),by simp only;omega⟩
  split
  · rename_i hz
    exact⟨⟨h1,h2,(fun h=>by cases h),(fun h=>by simp at h),h5,h6,h7,h8,(fun h=>by cases h),by simp⟩,fun h=>absurd h hz,by simp only;omega⟩
  split
  · exact⟨⟨h1,h2,(fun h=>by cases h),(fun h=>by simp at h),by simp [hd0],(fun f m=>by cases m),h7,h8,(fun h=>by cases h),by simp⟩,fun _=>⟨h1,h2,(fun h=>by cases h),fun _=>rfl,by simp [hd0],(fun f m=>by cases m),h7,h8,(fun h=>by cases h),by simp⟩,by simp;omega⟩
  split
  · exact⟨⟨h1,h2,(fun h=>by cases h),(fun h=>by simp at h),h5,h6,by simp only;omega,by simp only;omega,(fun h=>by cases h),by simp⟩,fun _=>⟨h1,h2,(fun h=>by cases h),(fun h=>by simp at h),h5,h6,by simp only;omega,by simp only;omega,fun _=>by simp only;omega,by simp⟩,by simp;omega⟩
  · exact⟨⟨h1,(fun c e=>by cases e;exact Qq zla (Nat.zero_le _)),(fun h=>by cases h),(fun h=>by simp at h),h5,h6,h7,h8,(fun h=>by cases h),by simp⟩,fun _=>⟨h1,(fun c e=>by cases e;exact Qq zla (Nat.zero_le _)),(fun _ h=>by cases h),(fun h=>by simp at h),h5,h6,h7,h8,(fun h=>by simp at h),by simp⟩,by simp;omega⟩
theorem Wv {q:Rq} {i:Nat} (h:RqI q i):RqI { q with out:=[],pos:=4} i:=⟨h.lb,h.ck,(fun h=>by cases h),(fun h=>by simp at h),h.fl,h.ff,h.l0,h.l1,(fun h=>by cases h),by simp⟩
theorem zhT {q:Rq} {i:Nat} (h:RqI q i) (hp:q.pos=0∨q.pos=1) {s:Str} (hs:s.length≤i) (k:Nat) (ho:q.out.length≤k):RqI { (zI q s).1 with out:=[],pos:=4} i∧((zI q s).2=0→RqI { (zI q s).1 with out:=[]} i)∧(zI q s).1.out.length≤k+2:=by
  have h0:RqI { q with out:=[]} i:=zjr h (by simp)
  have hx:=Wv h
  have hd:=zh4 h k ho
  have hpl:=zas s
  have hb:=zle s
  have how:=h.ow hp
  unfold zI
  split
  · split
    · exact⟨hx,fun _=>h0,by simp only;omega⟩
    split
    · have h1:RqI { q with h:=(begM s).2,pos:=1,out:=[]} i:=⟨h.lb,h.ck,(fun h=>by cases h),fun _=>how,by simp [hb],(by simp [hb]),h.l0,h.l1,(fun h=>by cases h),by simp⟩
      have hd1:=Wv h1
      exact⟨hd1,fun _=>h1,by simp only;omega⟩
    split
    · have h1:RqI { q with h:=(begM s).2,out:=[]} i:=⟨h.lb,h.ck,h.p3,fun _=>how,by simp [hb],(by simp [hb]),h.l0,h.l1,h.l2,by simp⟩
      have hd1:=Wv h1
      exact⟨hd1,fun _=>h1,by simp only;omega⟩
    · exact⟨hx,fun _=>h0,by simp only;omega⟩
  · split
    · exact hd
    split
    · exact⟨hx,fun _=>h0,by simp only;omega⟩
    · rename_i h16
      have h1:RqI { q with h:= { q.h with fields:=q.h.fields++[(zM s).1]},out:=[]} i:=by
        refine⟨h.lb,h.ck,h.p3,h.ow,?_,?_,h.l0,h.l1,h.l2,by simp⟩
        · have:=h.fl;simp;omega
        · intro f hf
          rcases List.mem_append.1 hf with hf|hf
          · exact h.ff f hf
          · simp only [List.mem_singleton] at hf
            subst hf;omega
      have hd1:=Wv h1
      exact⟨hd1,fun _=>h1,by simp only;omega⟩
theorem zem {q:Rq} {i:Nat} (h:RqI q i) (c:UInt8):RqI (rqF q c) (i+1):=by
  have hm:=zhV h (Nat.le_succ i)
  have hon:=h.on
  unfold rqF
  split
  · rename_i hp
    have h2:=h.l2 hp
    split
    · exact⟨hm.lb,hm.ck,(fun h=>by cases h),fun _=>rfl,by simp [yU,hd0],(fun f m=>by cases m),(Int.le_refl _),(show(0:Int)≤4000 by decide),(fun h=>by cases h),by simp [yU];omega⟩
    · exact⟨hm.lb,hm.ck,hm.p3,hm.ow,hm.fl,hm.ff,by have:=h.l0;simp only;omega,by have:=h.l1;simp only;omega,fun _=>by simp only;omega,by simp;omega⟩
  split
  · rename_i hp
    have hc:ChI (chF (ckOf q) c).1 (i+1):=by
      unfold ckOf
      cases hq:q.ck with
      |none=>exact absurd hq (h.p3 hp)
      |some x=>exact zlG (h.ck x hq) c
    split
    · exact⟨hm.lb,(fun x e=>by cases e;exact hc),(fun h=>by cases h),(fun h=>by simp [yc] at h),hm.fl,hm.ff,hm.l0,hm.l1,(fun h=>by cases h),by simp [yc];omega⟩
    split
    · refine⟨hm.lb,(fun x e=>by cases e;exact hc),(fun h=>by cases h),fun _=>rfl,by simp [yU,hd0],(fun f m=>by cases m),hm.l0,hm.l1,(fun h=>by cases h),?_⟩
      simp only [yU]
      split<;>((try simp);omega)
    · refine⟨hm.lb,(fun x e=>by cases e;exact hc),(fun _ h=>by cases h),hm.ow,hm.fl,hm.ff,hm.l0,hm.l1,hm.l2,?_⟩
      show(if(chF (ckOf q) c).2.1≠[] then q.out++[evB (chF (ckOf q) c).2.1] else q.out).length≤4 * (i+1)
      split<;>((try simp);omega)
  split
  · rename_i hp
    have hlb:(lnF q.ln c).1.b.length≤i+1:=by have:=zkM q.ln c;have:=h.lb;omega
    have hll:(lnF q.ln c).2.1.length≤i+1:=by have:=Xi q.ln c;have:=h.lb;omega
    have h1:RqI { q with ln:=(lnF q.ln c).1} (i+1):=⟨hlb,hm.ck,hm.p3,hm.ow,hm.fl,hm.ff,hm.l0,hm.l1,hm.l2,hm.on⟩
    split
    · exact⟨hlb,hm.ck,(fun h=>by cases h),(fun h=>by simp [yc] at h),hm.fl,hm.ff,hm.l0,hm.l1,(fun h=>by cases h),by simp [yc];omega⟩
    split
    · have hk:=zhT h1 hp hll (4 * i) hon
      generalize zI { q with ln:=(lnF q.ln c).1} (lnF q.ln c).2.1=z at *
      obtain⟨⟨k1,k2,-,-,k5,k6,k7,k8,-,-⟩,kz,ko⟩:=hk
      split
      · exact⟨k1,k2,(fun h=>by cases h),(fun h=>by simp [yc] at h),k5,k6,k7,k8,(fun h=>by cases h),by simp [yc];omega⟩
      · rename_i hz
        obtain⟨k1,k2,k3,k4,k5,k6,k7,k8,k9,k10⟩:=kz (by simpa using hz)
        exact⟨k1,k2,k3,k4,k5,k6,k7,k8,k9,by omega⟩
    · exact h1
  · exact hm
end Go.Proofs.YtmibhbdfigpkmaaGreatDoor
namespace Go.Proofs.YtmibhbdfigpkmaaGreatDoor
open Go Go.Sep Go.Ab
set_option maxRecDepth 100000
def txtN (base:Nat):Nat→Nat→Str
  |0,_=>[]
  |f+1,n=>if n<base then [if n<10 then UInt8.ofNat (48+n) else UInt8.ofNat (87+n)] else txtN base f (n / base)++[if n % base<10 then UInt8.ofNat (48+n % base) else UInt8.ofNat (87+n % base)]
def dgN (d:Nat):UInt8:=if d<10 then UInt8.ofNat (48+d) else UInt8.ofNat (87+d)
theorem rQ {d:Nat} (h:d<10):(([48,49,50,51,52,53,54,55,56,57]:Str).drop d).take 1=[dgN d]:=(by decide+kernel: ∀ d:Fin 10,(([48,49,50,51,52,53,54,55,56,57]:Str).drop d.1).take 1=[dgN d.1]) ⟨d,h⟩
theorem yA {base f n:Nat} (h:n<base):txtN base (f+1) n=[dgN n]:=by rw [txtN,if_pos h];rfl
theorem xM {base f n:Nat} (h: ¬ n<base):txtN base (f+1) n=txtN base f (n / base)++[dgN (n % base)]:=by rw [txtN,if_neg h];rfl
theorem yB (base:Nat): ∀ f n,(txtN base f n).length≤f
  |0,_=>Nat.le_refl _
  | f +1,n=>by
    rw [txtN]
    split
    · simp
    · have:=yB base f (n / base)
      rw [List.length_append];simp;omega
theorem zlz (n:Int) (hneed:False):Spc Tryz.prog 20 [.v (.one (.p (.int .i64 n)))] [] (.ret (.v (.one (.p (.str ([])))))) []:=hneed.elim
def RH (I:Alg) (args:List D) (hp:List HO):Option CT:=match args,hp with
  |[.v (.one (.p (.int .i64 n)))],[]=>(fun(n:Int)=>(some (.one ⟨I.hid (False),(.ret (.v (.one (.p (.str (I.hid ([]))))))),[]⟩):Option CT)) n
  |_,_=>none
theorem zgj:zD Tryz.prog 20 (RH alg):=by
  intro args hp r h
  unfold RH at h
  split at h
  · cases h;exact fun hn=>zlz _ hn
  · cases h
def uK:Know Tryz.prog:=⟨20,RH,zgj⟩
def sQ:Know Tryz.prog:=⟨20,fun I=>zH I (RH I),zf zgj⟩
theorem zly (n:Int) (hneed:0≤n∧n<10):Spc Tryz.prog 20 [.v (.one (.p (.int .i64 n)))] [] (.ret (.v (.one (.p (.str (txtN 10 1 n.toNat)))))) []:=by
  generalize hr:txtN 10 1 n.toNat=r
  refine spcG zi mixed Tryz.func20 (by kernel_rfl) { keep:=some [0,2]} [uK,uK,sQ] (by kernel_rfl) ?_
  intro I X hI hX
  refine zh (let y0:=([48,49,50,51,52,53,54,55,56,57]:Str);let y1:=I.cut (α:=UInt8) y0 (I.rem n 10) (I.add (I.rem n 10) 1);let y2:=I.len (α:=UInt8) (I.hid (α:=Str) ([]:Str));.br (I.ilt n 0) (.need (I.inr Go.IntKind.i64 (I.sub 0 n)) (.need (I.hid (α:=(Prop)) False) (.need (I.few (I.add (I.len (α:=UInt8) ([45]:Str)) y2) 1000000000) (.fin (.ret (.v (.one (.p (.str (I.app (α:=UInt8) ([45]:Str) (I.hid (α:=Str) ([]:Str)))))))) [])))) (.br (I.ilt n 10) (.need (I.inr Go.IntKind.i64 (I.add n 1)) (.need (I.cutb n (I.add n 1) (I.len (α:=UInt8) y0)) (.fin (.ret (.v (.one (.p (.str (I.cut (α:=UInt8) y0 n (I.add n 1))))))) []))) (.need (I.nne 10) (.need (I.inr Go.IntKind.i64 (I.quo n 10)) (.need (I.nne 10) (.need (I.nne 10) (.need (I.inr Go.IntKind.i64 (I.add (I.rem n 10) 1)) (.need (I.cutb (I.rem n 10) (I.add (I.rem n 10) 1) (I.len (α:=UInt8) y0)) (.need (I.hid (α:=(Prop)) False) (.need (I.few (I.add y2 (I.len (α:=UInt8) y1)) 1000000000) (.fin (.ret (.v (.one (.p (.str (I.app (α:=UInt8) (I.hid (α:=Str) ([]:Str)) y1)))))) []))))))))))) (by kernel_rfl) ?_
  simp only [zy]
  subst hI
  simp only [nrmA,nrmB]
  obtain⟨m,rfl⟩: ∃ m:Nat,n=m:=⟨n.toNat,by omega⟩
  rw [Int.toNat_natCast] at hr
  have e1:(m:Int).tdiv 10=((m / 10:Nat):Int):=by rw [Int.tdiv_eq_ediv_of_nonneg (by omega)];omega
  have e2:(m:Int).tmod 10=((m % 10:Nat):Int):=by rw [Int.tmod_eq_emod_of_nonneg (by omega)];omega
  have e3:m<10→(([48,49,50,51,52,53,54,55,56,57]:Str).drop m).take (((m:Int)+1).toNat - m)=r:=fun h=>by
    rw [show((m:Int)+1).toNat - m=1 by omega,rQ h,← hr,yA h]
  have e4:(([48,49,50,51,52,53,54,55,56,57]:Str).drop (m % 10)).take ((((m % 10:Nat):Int)+1).toNat - m % 10)=[dgN (m % 10)]:=by
    rw [show(((m % 10:Nat):Int)+1).toNat - m % 10=1 by omega,rQ (Nat.mod_lt _ (by decide))]
  have e5: ¬ m<10→txtN 10 0 (m / 10)++[dgN (m % 10)]=r:=fun h=>by rw [← hr,xM h]
  have hl:=yB 10 0 (m / 10)
  have hl2:=yB 10 0 (m % 10)
  have e6:0<0→txtN 10 0 (m % 10)=[dgN (m % 10)]:=fun h=>by first|exact absurd h (by decide)|exact yA (f:=0) (Nat.mod_lt _ (by decide))
  generalize hH:([48,49,50,51,52,53,54,55,56,57]:Str)=H at *
  have hHl:H.length=10:=by rw [← hH];rfl
  simp only [e1,e2,Int.toNat_natCast,e4,List.length_cons,List.length_nil]
  (repeat' (first|refine And.intro ?_ ?_|intro _))<;>first|omega|exact True.intro|exact False.elim ‹False›|skip
  all_goals first
    |exact e3 (by omega)
    |exact e5 (by omega)
    |(rw [e6 (by decide)];exact e5 (by omega))
    |(exfalso;omega)
def RG (I:Alg) (args:List D) (hp:List HO):Option CT:=match args,hp with
  |[.v (.one (.p (.int .i64 n)))],[]=>(fun(n:Int)=>(some (.one ⟨I.hid (0≤n∧n<10),(.ret (.v (.one (.p (.str (I.hid (txtN 10 1 n.toNat))))))),[]⟩):Option CT)) n
  |_,_=>none
theorem zgi:zD Tryz.prog 20 (RG alg):=by
  intro args hp r h
  unfold RG at h
  split at h
  · cases h;exact fun hn=>zly _ hn
  · cases h
def sO:Know Tryz.prog:=⟨20,RG,zgi⟩
def qf:Know Tryz.prog:=⟨20,fun I=>zH I (RG I),zf zgi⟩
theorem zlx (n:Int) (hneed:0≤n∧n<100):Spc Tryz.prog 20 [.v (.one (.p (.int .i64 n)))] [] (.ret (.v (.one (.p (.str (txtN 10 2 n.toNat)))))) []:=by
  generalize hr:txtN 10 2 n.toNat=r
  refine spcG zi mixed Tryz.func20 (by kernel_rfl) { keep:=some [0,2]} [sO,uK,sQ,sO,qf] (by kernel_rfl) ?_
  intro I X hI hX
  refine zh (let y0:=([48,49,50,51,52,53,54,55,56,57]:Str);let y1:=I.cut (α:=UInt8) y0 (I.rem n 10) (I.add (I.rem n 10) 1);let y2:=I.hid (α:=Str) (txtN 10 1 (Int.toNat (I.quo n 10)));let y3:=I.hid (α:=Str) (txtN 10 1 (Int.toNat (I.sub 0 n)));.br (I.ilt n 0) (.need (I.inr Go.IntKind.i64 (I.sub 0 n)) (.need (I.hid (α:=(Prop)) (And (LE.le (0:Int) (I.sub 0 n)) (LT.lt (I.sub 0 n) (10:Int)))) (.need (I.few (I.add (I.len (α:=UInt8) ([45]:Str)) (I.len (α:=UInt8) y3)) 1000000000) (.fin (.ret (.v (.one (.p (.str (I.app (α:=UInt8) ([45]:Str) y3)))))) [])))) (.br (I.ilt n 10) (.need (I.inr Go.IntKind.i64 (I.add n 1)) (.need (I.cutb n (I.add n 1) (I.len (α:=UInt8) y0)) (.fin (.ret (.v (.one (.p (.str (I.cut (α:=UInt8) y0 n (I.add n 1))))))) []))) (.need (I.nne 10) (.need (I.inr Go.IntKind.i64 (I.quo n 10)) (.need (I.nne 10) (.need (I.nne 10) (.need (I.inr Go.IntKind.i64 (I.add (I.rem n 10) 1)) (.need (I.cutb (I.rem n 10) (I.add (I.rem n 10) 1) (I.len (α:=UInt8) y0)) (.need (I.hid (α:=(Prop)) (And (LE.le (0:Int) (I.quo n 10)) (LT.lt (I.quo n 10) (10:Int)))) (.need (I.few (I.add (I.len (α:=UInt8) y2) (I.len (α:=UInt8) y1)) 1000000000) (.fin (.ret (.v (.one (.p (.str (I.app (α:=UInt8) y2 y1)))))) []))))))))))) (by kernel_rfl) ?_
  simp only [zy]
  subst hI
  simp only [nrmA,nrmB]
  obtain⟨m,rfl⟩: ∃ m:Nat,n=m:=⟨n.toNat,by omega⟩
  rw [Int.toNat_natCast] at hr
  have e1:(m:Int).tdiv 10=((m / 10:Nat):Int):=by rw [Int.tdiv_eq_ediv_of_nonneg (by omega)];omega
  have e2:(m:Int).tmod 10=((m % 10:Nat):Int):=by rw [Int.tmod_eq_emod_of_nonneg (by omega)];omega
  have e3:m<10→(([48,49,50,51,52,53,54,55,56,57]:Str).drop m).take (((m:Int)+1).toNat - m)=r:=fun h=>by
    rw [show((m:Int)+1).toNat - m=1 by omega,rQ h,← hr,yA h]
  have e4:(([48,49,50,51,52,53,54,55,56,57]:Str).drop (m % 10)).take ((((m % 10:Nat):Int)+1).toNat - m % 10)=[dgN (m % 10)]:=by
    rw [show(((m % 10:Nat):Int)+1).toNat - m % 10=1 by omega,rQ (Nat.mod_lt _ (by decide))]
  have e5: ¬ m<10→txtN 10 1 (m / 10)++[dgN (m % 10)]=r:=fun h=>by rw [← hr,xM h]
  have hl:=yB 10 1 (m / 10)
  have hl2:=yB 10 1 (m % 10)
  have e6:0<1→txtN 10 1 (m % 10)=[dgN (m % 10)]:=fun h=>by first|exact absurd h (by decide)|exact yA (f:=0) (Nat.mod_lt _ (by decide))
  generalize hH:([48,49,50,51,52,53,54,55,56,57]:Str)=H at *
  have hHl:H.length=10:=by rw [← hH];rfl
  simp only [e1,e2,Int.toNat_natCast,e4,List.length_cons,List.length_nil]
  (repeat' (first|refine And.intro ?_ ?_|intro _))<;>first|omega|exact True.intro|exact False.elim ‹False›|skip
  all_goals first
    |exact e3 (by omega)
    |exact e5 (by omega)
    |(rw [e6 (by decide)];exact e5 (by omega))
    |(exfalso;omega)
def RF (I:Alg) (args:List D) (hp:List HO):Option CT:=match args,hp with
  |[.v (.one (.p (.int .i64 n)))],[]=>(fun(n:Int)=>(some (.one ⟨I.hid (0≤n∧n<100),(.ret (.v (.one (.p (.str (I.hid (txtN 10 2 n.toNat))))))),[]⟩):Option CT)) n
  |_,_=>none
theorem zgh:zD Tryz.prog 20 (RF alg):=by
  intro args hp r h
  unfold RF at h
  split at h
  · cases h;exact fun hn=>zlx _ hn
  · cases h
def rZ:Know Tryz.prog:=⟨20,RF,zgh⟩
def ZI:Know Tryz.prog:=⟨20,fun I=>zH I (RF I),zf zgh⟩
theorem zlw (n:Int) (hneed:0≤n∧n<1000):Spc Tryz.prog 20 [.v (.one (.p (.int .i64 n)))] [] (.ret (.v (.one (.p (.str (txtN 10 3 n.toNat)))))) []:=by
  generalize hr:txtN 10 3 n.toNat=r
  refine spcG zi mixed Tryz.func20 (by kernel_rfl) { keep:=some [0,2]} [rZ,uK,sQ,sO,qf,rZ,ZI] (by kernel_rfl) ?_
  intro I X hI hX
  refine zh (let y0:=([48,49,50,51,52,53,54,55,56,57]:Str);let y1:=I.cut (α:=UInt8) y0 (I.rem n 10) (I.add (I.rem n 10) 1);let y2:=I.hid (α:=Str) (txtN 10 2 (Int.toNat (I.quo n 10)));let y3:=I.hid (α:=Str) (txtN 10 2 (Int.toNat (I.sub 0 n)));.br (I.ilt n 0) (.need (I.inr Go.IntKind.i64 (I.sub 0 n)) (.need (I.hid (α:=(Prop)) (And (LE.le (0:Int) (I.sub 0 n)) (LT.lt (I.sub 0 n) (100:Int)))) (.need (I.few (I.add (I.len (α:=UInt8) ([45]:Str)) (I.len (α:=UInt8) y3)) 1000000000) (.fin (.ret (.v (.one (.p (.str (I.app (α:=UInt8) ([45]:Str) y3)))))) [])))) (.br (I.ilt n 10) (.need (I.inr Go.IntKind.i64 (I.add n 1)) (.need (I.cutb n (I.add n 1) (I.len (α:=UInt8) y0)) (.fin (.ret (.v (.one (.p (.str (I.cut (α:=UInt8) y0 n (I.add n 1))))))) []))) (.need (I.nne 10) (.need (I.inr Go.IntKind.i64 (I.quo n 10)) (.need (I.nne 10) (.need (I.nne 10) (.need (I.inr Go.IntKind.i64 (I.add (I.rem n 10) 1)) (.need (I.cutb (I.rem n 10) (I.add (I.rem n 10) 1) (I.len (α:=UInt8) y0)) (.need (I.hid (α:=(Prop)) (And (LE.le (0:Int) (I.quo n 10)) (LT.lt (I.quo n 10) (100:Int)))) (.need (I.few (I.add (I.len (α:=UInt8) y2) (I.len (α:=UInt8) y1)) 1000000000) (.fin (.ret (.v (.one (.p (.str (I.app (α:=UInt8) y2 y1)))))) []))))))))))) (by kernel_rfl) ?_
  simp only [zy]
  subst hI
  simp only [nrmA,nrmB]
  obtain⟨m,rfl⟩: ∃ m:Nat,n=m:=⟨n.toNat,by omega⟩
  rw [Int.toNat_natCast] at hr
  have e1:(m:Int).tdiv 10=((m / 10:Nat):Int):=by rw [Int.tdiv_eq_ediv_of_nonneg (by omega)];omega
  have e2:(m:Int).tmod 10=((m % 10:Nat):Int):=by rw [Int.tmod_eq_emod_of_nonneg (by omega)];omega
  have e3:m<10→(([48,49,50,51,52,53,54,55,56,57]:Str).drop m).take (((m:Int)+1).toNat - m)=r:=fun h=>by
    rw [show((m:Int)+1).toNat - m=1 by omega,rQ h,← hr,yA h]
  have e4:(([48,49,50,51,52,53,54,55,56,57]:Str).drop (m % 10)).take ((((m % 10:Nat):Int)+1).toNat - m % 10)=[dgN (m % 10)]:=by
    rw [show(((m % 10:Nat):Int)+1).toNat - m % 10=1 by omega,rQ (Nat.mod_lt _ (by decide))]
  have e5: ¬ m<10→txtN 10 2 (m / 10)++[dgN (m % 10)]=r:=fun h=>by rw [← hr,xM h]
  have hl:=yB 10 2 (m / 10)
  have hl2:=yB 10 2 (m % 10)
  have e6:0<2→txtN 10 2 (m % 10)=[dgN (m % 10)]:=fun h=>by first|exact absurd h (by decide)|exact yA (f:=1) (Nat.mod_lt _ (by decide))
  generalize hH:([48,49,50,51,52,53,54,55,56,57]:Str)=H at *
  have hHl:H.length=10:=by rw [← hH];rfl
  simp only [e1,e2,Int.toNat_natCast,e4,List.length_cons,List.length_nil]
  (repeat' (first|refine And.intro ?_ ?_|intro _))<;>first|omega|exact True.intro|exact False.elim ‹False›|skip
  all_goals first
    |exact e3 (by omega)
    |exact e5 (by omega)
    |(rw [e6 (by decide)];exact e5 (by omega))
    |(exfalso;omega)
def RD (I:Alg) (args:List D) (hp:List HO):Option CT:=match args,hp with
  |[.v (.one (.p (.int .i64 n)))],[]=>(fun(n:Int)=>(some (.one ⟨I.hid (0≤n∧n<1000),(.ret (.v (.one (.p (.str (I.hid (txtN 10 3 n.toNat))))))),[]⟩):Option CT)) n
  |_,_=>none
theorem zgg:zD Tryz.prog 20 (RD alg):=by
  intro args hp r h
  unfold RD at h
  split at h
  · cases h;exact fun hn=>zlw _ hn
  · cases h
def ZH:Know Tryz.prog:=⟨20,RD,zgg⟩
def Xh:Know Tryz.prog:=⟨20,fun I=>zH I (RD I),zf zgg⟩
theorem zlv (n:Int) (hneed:0≤n∧n<10000):Spc Tryz.prog 20 [.v (.one (.p (.int .i64 n)))] [] (.ret (.v (.one (.p (.str (txtN 10 4 n.toNat)))))) []:=by
  generalize hr:txtN 10 4 n.toNat=r
  refine spcG zi mixed Tryz.func20 (by kernel_rfl) { keep:=some [0,2]} [ZH,uK,sQ,sO,qf,rZ,ZI,ZH,Xh] (by kernel_rfl) ?_
  intro I X hI hX
  refine zh (let y0:=([48,49,50,51,52,53,54,55,56,57]:Str);let y1:=I.cut (α:=UInt8) y0 (I.rem n 10) (I.add (I.rem n 10) 1);let y2:=I.hid (α:=Str) (txtN 10 3 (Int.toNat (I.quo n 10)));let y3:=I.hid (α:=Str) (txtN 10 3 (Int.toNat (I.sub 0 n)));.br (I.ilt n 0) (.need (I.inr Go.IntKind.i64 (I.sub 0 n)) (.need (I.hid (α:=(Prop)) (And (LE.le (0:Int) (I.sub 0 n)) (LT.lt (I.sub 0 n) (1000:Int)))) (.need (I.few (I.add (I.len (α:=UInt8) ([45]:Str)) (I.len (α:=UInt8) y3)) 1000000000) (.fin (.ret (.v (.one (.p (.str (I.app (α:=UInt8) ([45]:Str) y3)))))) [])))) (.br (I.ilt n 10) (.need (I.inr Go.IntKind.i64 (I.add n 1)) (.need (I.cutb n (I.add n 1) (I.len (α:=UInt8) y0)) (.fin (.ret (.v (.one (.p (.str (I.cut (α:=UInt8) y0 n (I.add n 1))))))) []))) (.need (I.nne 10) (.need (I.inr Go.IntKind.i64 (I.quo n 10)) (.need (I.nne 10) (.need (I.nne 10) (.need (I.inr Go.IntKind.i64 (I.add (I.rem n 10) 1)) (.need (I.cutb (I.rem n 10) (I.add (I.rem n 10) 1) (I.len (α:=UInt8) y0)) (.need (I.hid (α:=(Prop)) (And (LE.le (0:Int) (I.quo n 10)) (LT.lt (I.quo n 10) (1000:Int)))) (.need (I.few (I.add (I.len (α:=UInt8) y2) (I.len (α:=UInt8) y1)) 1000000000) (.fin (.ret (.v (.one (.p (.str (I.app (α:=UInt8) y2 y1)))))) []))))))))))) (by kernel_rfl) ?_
  simp only [zy]
  subst hI
  simp only [nrmA,nrmB]
  obtain⟨m,rfl⟩: ∃ m:Nat,n=m:=⟨n.toNat,by omega⟩
  rw [Int.toNat_natCast] at hr
  have e1:(m:Int).tdiv 10=((m / 10:Nat):Int):=by rw [Int.tdiv_eq_ediv_of_nonneg (by omega)];omega
  have e2:(m:Int).tmod 10=((m % 10:Nat):Int):=by rw [Int.tmod_eq_emod_of_nonneg (by omega)];omega
  have e3:m<10→(([48,49,50,51,52,53,54,55,56,57]:Str).drop m).take (((m:Int)+1).toNat - m)=r:=fun h=>by
    rw [show((m:Int)+1).toNat - m=1 by omega,rQ h,← hr,yA h]
  have e4:(([48,49,50,51,52,53,54,55,56,57]:Str).drop (m % 10)).take ((((m % 10:Nat):Int)+1).toNat - m % 10)=[dgN (m % 10)]:=by
    rw [show(((m % 10:Nat):Int)+1).toNat - m % 10=1 by omega,rQ (Nat.mod_lt _ (by decide))]
  have e5: ¬ m<10→txtN 10 3 (m / 10)++[dgN (m % 10)]=r:=fun h=>by rw [← hr,xM h]
  have hl:=yB 10 3 (m / 10)
  have hl2:=yB 10 3 (m % 10)
  have e6:0<3→txtN 10 3 (m % 10)=[dgN (m % 10)]:=fun h=>by first|exact absurd h (by decide)|exact yA (f:=2) (Nat.mod_lt _ (by decide))
  generalize hH:([48,49,50,51,52,53,54,55,56,57]:Str)=H at *
  have hHl:H.length=10:=by rw [← hH];rfl
  simp only [e1,e2,Int.toNat_natCast,e4,List.length_cons,List.length_nil]
  (repeat' (first|refine And.intro ?_ ?_|intro _))<;>first|omega|exact True.intro|exact False.elim ‹False›|skip
  all_goals first
    |exact e3 (by omega)
    |exact e5 (by omega)
    |(rw [e6 (by decide)];exact e5 (by omega))
    |(exfalso;omega)
def Rz (I:Alg) (args:List D) (hp:List HO):Option CT:=match args,hp with
  |[.v (.one (.p (.int .i64 n)))],[]=>(fun(n:Int)=>(some (.one ⟨I.hid (0≤n∧n<10000),(.ret (.v (.one (.p (.str (I.hid (txtN 10 4 n.toNat))))))),[]⟩):Option CT)) n
  |_,_=>none
theorem zgf:zD Tryz.prog 20 (Rz alg):=by
  intro args hp r h
  unfold Rz at h
  split at h
  · cases h;exact fun hn=>zlv _ hn
  · cases h
def Xg:Know Tryz.prog:=⟨20,Rz,zgf⟩
def VQ:Know Tryz.prog:=⟨20,fun I=>zH I (Rz I),zf zgf⟩
theorem zlu (n:Int) (hneed:0≤n∧n<100000):Spc Tryz.prog 20 [.v (.one (.p (.int .i64 n)))] [] (.ret (.v (.one (.p (.str (txtN 10 5 n.toNat)))))) []:=by
  generalize hr:txtN 10 5 n.toNat=r
  refine spcG zi mixed Tryz.func20 (by kernel_rfl) { keep:=some [0,2]} [Xg,uK,sQ,sO,qf,rZ,ZI,ZH,Xh,Xg,VQ] (by kernel_rfl) ?_
  intro I X hI hX
  refine zh (let y0:=([48,49,50,51,52,53,54,55,56,57]:Str);let y1:=I.cut (α:=UInt8) y0 (I.rem n 10) (I.add (I.rem n 10) 1);let y2:=I.hid (α:=Str) (txtN 10 4 (Int.toNat (I.quo n 10)));let y3:=I.hid (α:=Str) (txtN 10 4 (Int.toNat (I.sub 0 n)));.br (I.ilt n 0) (.need (I.inr Go.IntKind.i64 (I.sub 0 n)) (.need (I.hid (α:=(Prop)) (And (LE.le (0:Int) (I.sub 0 n)) (LT.lt (I.sub 0 n) (10000:Int)))) (.need (I.few (I.add (I.len (α:=UInt8) ([45]:Str)) (I.len (α:=UInt8) y3)) 1000000000) (.fin (.ret (.v (.one (.p (.str (I.app (α:=UInt8) ([45]:Str) y3)))))) [])))) (.br (I.ilt n 10) (.need (I.inr Go.IntKind.i64 (I.add n 1)) (.need (I.cutb n (I.add n 1) (I.len (α:=UInt8) y0)) (.fin (.ret (.v (.one (.p (.str (I.cut (α:=UInt8) y0 n (I.add n 1))))))) []))) (.need (I.nne 10) (.need (I.inr Go.IntKind.i64 (I.quo n 10)) (.need (I.nne 10) (.need (I.nne 10) (.need (I.inr Go.IntKind.i64 (I.add (I.rem n 10) 1)) (.need (I.cutb (I.rem n 10) (I.add (I.rem n 10) 1) (I.len (α:=UInt8) y0)) (.need (I.hid (α:=(Prop)) (And (LE.le (0:Int) (I.quo n 10)) (LT.lt (I.quo n 10) (10000:Int)))) (.need (I.few (I.add (I.len (α:=UInt8) y2) (I.len (α:=UInt8) y1)) 1000000000) (.fin (.ret (.v (.one (.p (.str (I.app (α:=UInt8) y2 y1)))))) []))))))))))) (by kernel_rfl) ?_
  simp only [zy]
  subst hI
  simp only [nrmA,nrmB]
  obtain⟨m,rfl⟩: ∃ m:Nat,n=m:=⟨n.toNat,by omega⟩
  rw [Int.toNat_natCast] at hr
  have e1:(m:Int).tdiv 10=((m / 10:Nat):Int):=by rw [Int.tdiv_eq_ediv_of_nonneg (by omega)];omega
  have e2:(m:Int).tmod 10=((m % 10:Nat):Int):=by rw [Int.tmod_eq_emod_of_nonneg (by omega)];omega
  have e3:m<10→(([48,49,50,51,52,53,54,55,56,57]:Str).drop m).take (((m:Int)+1).toNat - m)=r:=fun h=>by
    rw [show((m:Int)+1).toNat - m=1 by omega,rQ h,← hr,yA h]
  have e4:(([48,49,50,51,52,53,54,55,56,57]:Str).drop (m % 10)).take ((((m % 10:Nat):Int)+1).toNat - m % 10)=[dgN (m % 10)]:=by
    rw [show(((m % 10:Nat):Int)+1).toNat - m % 10=1 by omega,rQ (Nat.mod_lt _ (by decide))]
  have e5: ¬ m<10→txtN 10 4 (m / 10)++[dgN (m % 10)]=r:=fun h=>by rw [← hr,xM h]
  have hl:=yB 10 4 (m / 10)
  have hl2:=yB 10 4 (m % 10)
  have e6:0<4→txtN 10 4 (m % 10)=[dgN (m % 10)]:=fun h=>by first|exact absurd h (by decide)|exact yA (f:=3) (Nat.mod_lt _ (by decide))
  generalize hH:([48,49,50,51,52,53,54,55,56,57]:Str)=H at *
  have hHl:H.length=10:=by rw [← hH];rfl
  simp only [e1,e2,Int.toNat_natCast,e4,List.length_cons,List.length_nil]
  (repeat' (first|refine And.intro ?_ ?_|intro _))<;>first|omega|exact True.intro|exact False.elim ‹False›|skip
  all_goals first
    |exact e3 (by omega)
    |exact e5 (by omega)
    |(rw [e6 (by decide)];exact e5 (by omega))
    |(exfalso;omega)
def Ry (I:Alg) (args:List D) (hp:List HO):Option CT:=match args,hp with
  |[.v (.one (.p (.int .i64 n)))],[]=>(fun(n:Int)=>(some (.one ⟨I.hid (0≤n∧n<100000),(.ret (.v (.one (.p (.str (I.hid (txtN 10 5 n.toNat))))))),[]⟩):Option CT)) n
  |_,_=>none
theorem zge:zD Tryz.prog 20 (Ry alg):=by
  intro args hp r h
  unfold Ry at h
  split at h
  · cases h;exact fun hn=>zlu _ hn
  · cases h
def VP:Know Tryz.prog:=⟨20,Ry,zge⟩
def Rx:Know Tryz.prog:=⟨20,fun I=>zH I (Ry I),zf zge⟩
theorem zlt (n:Int) (hneed:0≤n∧n<1000000):Spc Tryz.prog 20 [.v (.one (.p (.int .i64 n)))] [] (.ret (.v (.one (.p (.str (txtN 10 6 n.toNat)))))) []:=by
  generalize hr:txtN 10 6 n.toNat=r
  refine spcG zi mixed Tryz.func20 (by kernel_rfl) { keep:=some [0,2]} [VP,uK,sQ,sO,qf,rZ,ZI,ZH,Xh,Xg,VQ,VP,Rx] (by kernel_rfl) ?_
  intro I X hI hX
  refine zh (let y0:=([48,49,50,51,52,53,54,55,56,57]:Str);let y1:=I.cut (α:=UInt8) y0 (I.rem n 10) (I.add (I.rem n 10) 1);let y2:=I.hid (α:=Str) (txtN 10 5 (Int.toNat (I.quo n 10)));let y3:=I.hid (α:=Str) (txtN 10 5 (Int.toNat (I.sub 0 n)));.br (I.ilt n 0) (.need (I.inr Go.IntKind.i64 (I.sub 0 n)) (.need (I.hid (α:=(Prop)) (And (LE.le (0:Int) (I.sub 0 n)) (LT.lt (I.sub 0 n) (100000:Int)))) (.need (I.few (I.add (I.len (α:=UInt8) ([45]:Str)) (I.len (α:=UInt8) y3)) 1000000000) (.fin (.ret (.v (.one (.p (.str (I.app (α:=UInt8) ([45]:Str) y3)))))) [])))) (.br (I.ilt n 10) (.need (I.inr Go.IntKind.i64 (I.add n 1)) (.need (I.cutb n (I.add n 1) (I.len (α:=UInt8) y0)) (.fin (.ret (.v (.one (.p (.str (I.cut (α:=UInt8) y0 n (I.add n 1))))))) []))) (.need (I.nne 10) (.need (I.inr Go.IntKind.i64 (I.quo n 10)) (.need (I.nne 10) (.need (I.nne 10) (.need (I.inr Go.IntKind.i64 (I.add (I.rem n 10) 1)) (.need (I.cutb (I.rem n 10) (I.add (I.rem n 10) 1) (I.len (α:=UInt8) y0)) (.need (I.hid (α:=(Prop)) (And (LE.le (0:Int) (I.quo n 10)) (LT.lt (I.quo n 10) (100000:Int)))) (.need (I.few (I.add (I.len (α:=UInt8) y2) (I.len (α:=UInt8) y1)) 1000000000) (.fin (.ret (.v (.one (.p (.str (I.app (α:=UInt8) y2 y1)))))) []))))))))))) (by kernel_rfl) ?_
  simp only [zy]
  subst hI
  simp only [nrmA,nrmB]
  obtain⟨m,rfl⟩: ∃ m:Nat,n=m:=⟨n.toNat,by omega⟩
  rw [Int.toNat_natCast] at hr
  have e1:(m:Int).tdiv 10=((m / 10:Nat):Int):=by rw [Int.tdiv_eq_ediv_of_nonneg (by omega)];omega
  have e2:(m:Int).tmod 10=((m % 10:Nat):Int):=by rw [Int.tmod_eq_emod_of_nonneg (by omega)];omega
  have e3:m<10→(([48,49,50,51,52,53,54,55,56,57]:Str).drop m).take (((m:Int)+1).toNat - m)=r:=fun h=>by
    rw [show((m:Int)+1).toNat - m=1 by omega,rQ h,← hr,yA h]
  have e4:(([48,49,50,51,52,53,54,55,56,57]:Str).drop (m % 10)).take ((((m % 10:Nat):Int)+1).toNat - m % 10)=[dgN (m % 10)]:=by
    rw [show(((m % 10:Nat):Int)+1).toNat - m % 10=1 by omega,rQ (Nat.mod_lt _ (by decide))]
  have e5: ¬ m<10→txtN 10 5 (m / 10)++[dgN (m % 10)]=r:=fun h=>by rw [← hr,xM h]
  have hl:=yB 10 5 (m / 10)
  have hl2:=yB 10 5 (m % 10)
  have e6:0<5→txtN 10 5 (m % 10)=[dgN (m % 10)]:=fun h=>by first|exact absurd h (by decide)|exact yA (f:=4) (Nat.mod_lt _ (by decide))
  generalize hH:([48,49,50,51,52,53,54,55,56,57]:Str)=H at *
  have hHl:H.length=10:=by rw [← hH];rfl
  simp only [e1,e2,Int.toNat_natCast,e4,List.length_cons,List.length_nil]
  (repeat' (first|refine And.intro ?_ ?_|intro _))<;>first|omega|exact True.intro|exact False.elim ‹False›|skip
  all_goals first
    |exact e3 (by omega)
    |exact e5 (by omega)
    |(rw [e6 (by decide)];exact e5 (by omega))
    |(exfalso;omega)
def Rw (I:Alg) (args:List D) (hp:List HO):Option CT:=match args,hp with
  |[.v (.one (.p (.int .i64 n)))],[]=>(fun(n:Int)=>(some (.one ⟨I.hid (0≤n∧n<1000000),(.ret (.v (.one (.p (.str (I.hid (txtN 10 6 n.toNat))))))),[]⟩):Option CT)) n
  |_,_=>none
theorem zgd:zD Tryz.prog 20 (Rw alg):=by
  intro args hp r h
  unfold Rw at h
  split at h
  · cases h;exact fun hn=>zlt _ hn
  · cases h
def Ru:Know Tryz.prog:=⟨20,Rw,zgd⟩
def zbI:Know Tryz.prog:=⟨20,fun I=>zH I (Rw I),zf zgd⟩
theorem zls (n:Int) (hneed:0≤n∧n<10000000):Spc Tryz.prog 20 [.v (.one (.p (.int .i64 n)))] [] (.ret (.v (.one (.p (.str (txtN 10 7 n.toNat)))))) []:=by
  generalize hr:txtN 10 7 n.toNat=r
  refine spcG zi mixed Tryz.func20 (by kernel_rfl) { keep:=some [0,2]} [Ru,uK,sQ,sO,qf,rZ,ZI,ZH,Xh,Xg,VQ,VP,Rx,Ru,zbI] (by kernel_rfl) ?_
  intro I X hI hX
  refine zh (let y0:=([48,49,50,51,52,53,54,55,56,57]:Str);let y1:=I.cut (α:=UInt8) y0 (I.rem n 10) (I.add (I.rem n 10) 1);let y2:=I.hid (α:=Str) (txtN 10 6 (Int.toNat (I.quo n 10)));let y3:=I.hid (α:=Str) (txtN 10 6 (Int.toNat (I.sub 0 n)));.br (I.ilt n 0) (.need (I.inr Go.IntKind.i64 (I.sub 0 n)) (.need (I.hid (α:=(Prop)) (And (LE.le (0:Int) (I.sub 0 n)) (LT.lt (I.sub 0 n) (1000000:Int)))) (.need (I.few (I.add (I.len (α:=UInt8) ([45]:Str)) (I.len (α:=UInt8) y3)) 1000000000) (.fin (.ret (.v (.one (.p (.str (I.app (α:=UInt8) ([45]:Str) y3)))))) [])))) (.br (I.ilt n 10) (.need (I.inr Go.IntKind.i64 (I.add n 1)) (.need (I.cutb n (I.add n 1) (I.len (α:=UInt8) y0)) (.fin (.ret (.v (.one (.p (.str (I.cut (α:=UInt8) y0 n (I.add n 1))))))) []))) (.need (I.nne 10) (.need (I.inr Go.IntKind.i64 (I.quo n 10)) (.need (I.nne 10) (.need (I.nne 10) (.need (I.inr Go.IntKind.i64 (I.add (I.rem n 10) 1)) (.need (I.cutb (I.rem n 10) (I.add (I.rem n 10) 1) (I.len (α:=UInt8) y0)) (.need (I.hid (α:=(Prop)) (And (LE.le (0:Int) (I.quo n 10)) (LT.lt (I.quo n 10) (1000000:Int)))) (.need (I.few (I.add (I.len (α:=UInt8) y2) (I.len (α:=UInt8) y1)) 1000000000) (.fin (.ret (.v (.one (.p (.str (I.app (α:=UInt8) y2 y1)))))) []))))))))))) (by kernel_rfl) ?_
  simp only [zy]
  subst hI
  simp only [nrmA,nrmB]
  obtain⟨m,rfl⟩: ∃ m:Nat,n=m:=⟨n.toNat,by omega⟩
  rw [Int.toNat_natCast] at hr
  have e1:(m:Int).tdiv 10=((m / 10:Nat):Int):=by rw [Int.tdiv_eq_ediv_of_nonneg (by omega)];omega
  have e2:(m:Int).tmod 10=((m % 10:Nat):Int):=by rw [Int.tmod_eq_emod_of_nonneg (by omega)];omega
  have e3:m<10→(([48,49,50,51,52,53,54,55,56,57]:Str).drop m).take (((m:Int)+1).toNat - m)=r:=fun h=>by
    rw [show((m:Int)+1).toNat - m=1 by omega,rQ h,← hr,yA h]
  have e4:(([48,49,50,51,52,53,54,55,56,57]:Str).drop (m % 10)).take ((((m % 10:Nat):Int)+1).toNat - m % 10)=[dgN (m % 10)]:=by
    rw [show(((m % 10:Nat):Int)+1).toNat - m % 10=1 by omega,rQ (Nat.mod_lt _ (by decide))]
  have e5: ¬ m<10→txtN 10 6 (m / 10)++[dgN (m % 10)]=r:=fun h=>by rw [← hr,xM h]
  have hl:=yB 10 6 (m / 10)
  have hl2:=yB 10 6 (m % 10)
  have e6:0<6→txtN 10 6 (m % 10)=[dgN (m % 10)]:=fun h=>by first|exact absurd h (by decide)|exact yA (f:=5) (Nat.mod_lt _ (by decide))
  generalize hH:([48,49,50,51,52,53,54,55,56,57]:Str)=H at *
  have hHl:H.length=10:=by rw [← hH];rfl
  simp only [e1,e2,Int.toNat_natCast,e4,List.length_cons,List.length_nil]
  (repeat' (first|refine And.intro ?_ ?_|intro _))<;>first|omega|exact True.intro|exact False.elim ‹False›|skip
  all_goals first
    |exact e3 (by omega)
    |exact e5 (by omega)
    |(rw [e6 (by decide)];exact e5 (by omega))
    |(exfalso;omega)
def Ro (I:Alg) (args:List D) (hp:List HO):Option CT:=match args,hp with
  |[.v (.one (.p (.int .i64 n)))],[]=>(fun(n:Int)=>(some (.one ⟨I.hid (0≤n∧n<10000000),(.ret (.v (.one (.p (.str (I.hid (txtN 10 7 n.toNat))))))),[]⟩):Option CT)) n
  |_,_=>none
theorem zgc:zD Tryz.prog 20 (Ro alg):=by
  intro args hp r h
  unfold Ro at h
  split at h
  · cases h;exact fun hn=>zls _ hn
  · cases h
def zbH:Know Tryz.prog:=⟨20,Ro,zgc⟩
def zgb:Know Tryz.prog:=⟨20,fun I=>zH I (Ro I),zf zgc⟩
theorem zlr (n:Int) (hneed:0≤n∧n<100000000):Spc Tryz.prog 20 [.v (.one (.p (.int .i64 n)))] [] (.ret (.v (.one (.p (.str (txtN 10 8 n.toNat)))))) []:=by
  generalize hr:txtN 10 8 n.toNat=r
  refine spcG zi mixed Tryz.func20 (by kernel_rfl) { keep:=some [0,2]} [zbH,uK,sQ,sO,qf,rZ,ZI,ZH,Xh,Xg,VQ,VP,Rx,Ru,zbI,zbH,zgb] (by kernel_rfl) ?_
  intro I X hI hX
  refine zh (let y0:=([48,49,50,51,52,53,54,55,56,57]:Str);let y1:=I.cut (α:=UInt8) y0 (I.rem n 10) (I.add (I.rem n 10) 1);let y2:=I.hid (α:=Str) (txtN 10 7 (Int.toNat (I.quo n 10)));let y3:=I.hid (α:=Str) (txtN 10 7 (Int.toNat (I.sub 0 n)));.br (I.ilt n 0) (.need (I.inr Go.IntKind.i64 (I.sub 0 n)) (.need (I.hid (α:=(Prop)) (And (LE.le (0:Int) (I.sub 0 n)) (LT.lt (I.sub 0 n) (10000000:Int)))) (.need (I.few (I.add (I.len (α:=UInt8) ([45]:Str)) (I.len (α:=UInt8) y3)) 1000000000) (.fin (.ret (.v (.one (.p (.str (I.app (α:=UInt8) ([45]:Str) y3)))))) [])))) (.br (I.ilt n 10) (.need (I.inr Go.IntKind.i64 (I.add n 1)) (.need (I.cutb n (I.add n 1) (I.len (α:=UInt8) y0)) (.fin (.ret (.v (.one (.p (.str (I.cut (α:=UInt8) y0 n (I.add n 1))))))) []))) (.need (I.nne 10) (.need (I.inr Go.IntKind.i64 (I.quo n 10)) (.need (I.nne 10) (.need (I.nne 10) (.need (I.inr Go.IntKind.i64 (I.add (I.rem n 10) 1)) (.need (I.cutb (I.rem n 10) (I.add (I.rem n 10) 1) (I.len (α:=UInt8) y0)) (.need (I.hid (α:=(Prop)) (And (LE.le (0:Int) (I.quo n 10)) (LT.lt (I.quo n 10) (10000000:Int)))) (.need (I.few (I.add (I.len (α:=UInt8) y2) (I.len (α:=UInt8) y1)) 1000000000) (.fin (.ret (.v (.one (.p (.str (I.app (α:=UInt8) y2 y1)))))) []))))))))))) (by kernel_rfl) ?_
  simp only [zy]
  subst hI
  simp only [nrmA,nrmB]
  obtain⟨m,rfl⟩: ∃ m:Nat,n=m:=⟨n.toNat,by omega⟩
  rw [Int.toNat_natCast] at hr
  have e1:(m:Int).tdiv 10=((m / 10:Nat):Int):=by rw [Int.tdiv_eq_ediv_of_nonneg (by omega)];omega
  have e2:(m:Int).tmod 10=((m % 10:Nat):Int):=by rw [Int.tmod_eq_emod_of_nonneg (by omega)];omega
  have e3:m<10→(([48,49,50,51,52,53,54,55,56,57]:Str).drop m).take (((m:Int)+1).toNat - m)=r:=fun h=>by
    rw [show((m:Int)+1).toNat - m=1 by omega,rQ h,← hr,yA h]
  have e4:(([48,49,50,51,52,53,54,55,56,57]:Str).drop (m % 10)).take ((((m % 10:Nat):Int)+1).toNat - m % 10)=[dgN (m % 10)]:=by
    rw [show(((m % 10:Nat):Int)+1).toNat - m % 10=1 by omega,rQ (Nat.mod_lt _ (by decide))]
  have e5: ¬ m<10→txtN 10 7 (m / 10)++[dgN (m % 10)]=r:=fun h=>by rw [← hr,xM h]
  have hl:=yB 10 7 (m / 10)
  have hl2:=yB 10 7 (m % 10)
  have e6:0<7→txtN 10 7 (m % 10)=[dgN (m % 10)]:=fun h=>by first|exact absurd h (by decide)|exact yA (f:=6) (Nat.mod_lt _ (by decide))
  generalize hH:([48,49,50,51,52,53,54,55,56,57]:Str)=H at *
  have hHl:H.length=10:=by rw [← hH];rfl
  simp only [e1,e2,Int.toNat_natCast,e4,List.length_cons,List.length_nil]
  (repeat' (first|refine And.intro ?_ ?_|intro _))<;>first|omega|exact True.intro|exact False.elim ‹False›|skip
  all_goals first
    |exact e3 (by omega)
    |exact e5 (by omega)
    |(rw [e6 (by decide)];exact e5 (by omega))
    |(exfalso;omega)
def Rn (I:Alg) (args:List D) (hp:List HO):Option CT:=match args,hp with
  |[.v (.one (.p (.int .i64 n)))],[]=>(fun(n:Int)=>(some (.one ⟨I.hid (0≤n∧n<100000000),(.ret (.v (.one (.p (.str (I.hid (txtN 10 8 n.toNat))))))),[]⟩):Option CT)) n
  |_,_=>none
theorem zga:zD Tryz.prog 20 (Rn alg):=by
  intro args hp r h
  unfold Rn at h
  split at h
  · cases h;exact fun hn=>zlr _ hn
  · cases h
def zf9:Know Tryz.prog:=⟨20,Rn,zga⟩
def zjG:Know Tryz.prog:=⟨20,fun I=>zH I (Rn I),zf zga⟩
theorem zlq (n:Int) (hneed:0≤n∧n<1000000000):Spc Tryz.prog 20 [.v (.one (.p (.int .i64 n)))] [] (.ret (.v (.one (.p (.str (txtN 10 9 n.toNat)))))) []:=by
  generalize hr:txtN 10 9 n.toNat=r
  refine spcG zi mixed Tryz.func20 (by kernel_rfl) { keep:=some [0,2]} [zf9,uK,sQ,sO,qf,rZ,ZI,ZH,Xh,Xg,VQ,VP,Rx,Ru,zbI,zbH,zgb,zf9,zjG] (by kernel_rfl) ?_
  intro I X hI hX
  refine zh (let y0:=([48,49,50,51,52,53,54,55,56,57]:Str);let y1:=I.cut (α:=UInt8) y0 (I.rem n 10) (I.add (I.rem n 10) 1);let y2:=I.hid (α:=Str) (txtN 10 8 (Int.toNat (I.quo n 10)));let y3:=I.hid (α:=Str) (txtN 10 8 (Int.toNat (I.sub 0 n)));.br (I.ilt n 0) (.need (I.inr Go.IntKind.i64 (I.sub 0 n)) (.need (I.hid (α:=(Prop)) (And (LE.le (0:Int) (I.sub 0 n)) (LT.lt (I.sub 0 n) (100000000:Int)))) (.need (I.few (I.add (I.len (α:=UInt8) ([45]:Str)) (I.len (α:=UInt8) y3)) 1000000000) (.fin (.ret (.v (.one (.p (.str (I.app (α:=UInt8) ([45]:Str) y3)))))) [])))) (.br (I.ilt n 10) (.need (I.inr Go.IntKind.i64 (I.add n 1)) (.need (I.cutb n (I.add n 1) (I.len (α:=UInt8) y0)) (.fin (.ret (.v (.one (.p (.str (I.cut (α:=UInt8) y0 n (I.add n 1))))))) []))) (.need (I.nne 10) (.need (I.inr Go.IntKind.i64 (I.quo n 10)) (.need (I.nne 10) (.need (I.nne 10) (.need (I.inr Go.IntKind.i64 (I.add (I.rem n 10) 1)) (.need (I.cutb (I.rem n 10) (I.add (I.rem n 10) 1) (I.len (α:=UInt8) y0)) (.need (I.hid (α:=(Prop)) (And (LE.le (0:Int) (I.quo n 10)) (LT.lt (I.quo n 10) (100000000:Int)))) (.need (I.few (I.add (I.len (α:=UInt8) y2) (I.len (α:=UInt8) y1)) 1000000000) (.fin (.ret (.v (.one (.p (.str (I.app (α:=UInt8) y2 y1)))))) []))))))))))) (by kernel_rfl) ?_
  simp only [zy]
  subst hI
  simp only [nrmA,nrmB]
  obtain⟨m,rfl⟩: ∃ m:Nat,n=m:=⟨n.toNat,by omega⟩
  rw [Int.toNat_natCast] at hr
  have e1:(m:Int).tdiv 10=((m / 10:Nat):Int):=by rw [Int.tdiv_eq_ediv_of_nonneg (by omega)];omega
  have e2:(m:Int).tmod 10=((m % 10:Nat):Int):=by rw [Int.tmod_eq_emod_of_nonneg (by omega)];omega
  have e3:m<10→(([48,49,50,51,52,53,54,55,56,57]:Str).drop m).take (((m:Int)+1).toNat - m)=r:=fun h=>by
    rw [show((m:Int)+1).toNat - m=1 by omega,rQ h,← hr,yA h]
  have e4:(([48,49,50,51,52,53,54,55,56,57]:Str).drop (m % 10)).take ((((m % 10:Nat):Int)+1).toNat - m % 10)=[dgN (m % 10)]:=by
    rw [show(((m % 10:Nat):Int)+1).toNat - m % 10=1 by omega,rQ (Nat.mod_lt _ (by decide))]
  have e5: ¬ m<10→txtN 10 8 (m / 10)++[dgN (m % 10)]=r:=fun h=>by rw [← hr,xM h]
  have hl:=yB 10 8 (m / 10)
  have hl2:=yB 10 8 (m % 10)
  have e6:0<8→txtN 10 8 (m % 10)=[dgN (m % 10)]:=fun h=>by first|exact absurd h (by decide)|exact yA (f:=7) (Nat.mod_lt _ (by decide))
  generalize hH:([48,49,50,51,52,53,54,55,56,57]:Str)=H at *
  have hHl:H.length=10:=by rw [← hH];rfl
  simp only [e1,e2,Int.toNat_natCast,e4,List.length_cons,List.length_nil]
  (repeat' (first|refine And.intro ?_ ?_|intro _))<;>first|omega|exact True.intro|exact False.elim ‹False›|skip
  all_goals first
    |exact e3 (by omega)
    |exact e5 (by omega)
    |(rw [e6 (by decide)];exact e5 (by omega))
    |(exfalso;omega)
theorem zds: ∀ (k n:Nat),n<10 ^ (k+1)→Lib.decDigits n=txtN 10 (k+1) n
  | 0,n,h=>by
    rw [Lib.decDigits,dif_pos (by omega),yA (by omega)]
    unfold dgN
    rw [if_pos (by omega)]
  | k +1,n,h=>by
    rw [Lib.decDigits]
    by_cases hn:n<10
    · rw [dif_pos hn,yA hn]
      unfold dgN
      rw [if_pos hn]
    · rw [dif_neg hn,xM hn,zds k (n / 10) (by rw [Nat.pow_succ] at h;omega)]
      unfold dgN
      rw [if_pos (Nat.mod_lt _ (by decide))]
def decS (n:Int):Str:=txtN 10 9 n.toNat
theorem zim {n:Int} (h0:0≤n) (h1:n<1000000000):Lib.itoa n=decS n:=by
  unfold Lib.itoa decS
  rw [if_neg (by omega),zds 8 n.toNat (by omega)]
theorem Qm (n:Int):(decS n).length≤9:=yB 10 9 _
theorem zlA (n:Int) (hneed:0≤n∧n<1000000000):Spc Tryz.prog 39 [.v (.one (.p (.int .i64 n)))] [] (.ret (.v (.one (.p (.str (decS n)))))) []:=by
  refine Spc.of_below ⟨_,Tryz.func39,by kernel_rfl,by kernel_rfl⟩ fun S bs w vs hW hM=> ?_
  obtain⟨v,r,rfl⟩: ∃ v r,vs=v::r:=by cases vs with|nil=>exact hM.elim|cons v r=>exact⟨v,r,rfl⟩
  obtain⟨h1,hM⟩:=hM
  obtain rfl:r=[]:=by cases r with|nil=>rfl|cons v r=>exact hM.elim
  cases h1 with
  | int _ _=>
    refine⟨.string (Sep.S (decS n)),.str _ (by have:=Qm n;unfold maxLen;omega),?_⟩
    rw [← zim hneed.1 hneed.2]
    refine(Tryz.strconv_Itoa n (by omega) (by omega) w (by first|exact hW|exact hW.1)).mono fun e w' h=> ?_
    obtain⟨he,k,os,rfl⟩:=h
    refine⟨he,?_⟩
    exact⟨rfl,rfl,rfl,(show w.heap.size≤(w.heap++os).size by rw [Array.size_append];omega),fun j hj=>show(w.heap++os)[j]? =w.heap[j]? from Array.getElem?_append_left hj⟩
def RY (I:Alg) (args:List D) (hp:List HO):Option CT:=match args,hp with
  |[.v (.one (.p (.int .i64 n)))],[]=>(fun(n:Int)=>(some (.one ⟨I.hid (0≤n∧n<1000000000),(.ret (.v (.one (.p (.str (I.hid (decS n))))))),[]⟩):Option CT)) n
  |_,_=>none
theorem zgC:zD Tryz.prog 39 (RY alg):=by
  intro args hp r h
  unfold RY at h
  split at h
  · cases h;exact fun hn=>zlA _ hn
  · cases h
def zgB:Know Tryz.prog:=⟨39,RY,zgC⟩
def zgA:Know Tryz.prog:=⟨39,fun I=>zH I (RY I),zf zgC⟩
theorem num_ (n:Int) (hneed:0≤n∧n<1000000000):Spc Tryz.prog 20 [.v (.one (.p (.int .i64 n)))] [] (.ret (.v (.one (.p (.str (decS n)))))) []:=zlq n hneed
def zdb (I:Alg) (args:List D) (hp:List HO):Option CT:=match args,hp with
  |[.v (.one (.p (.int .i64 n)))],[]=>(fun(n:Int)=>(some (.one ⟨I.hid (0≤n∧n<1000000000),(.ret (.v (.one (.p (.str (I.hid (decS n))))))),[]⟩):Option CT)) n
  |_,_=>none
theorem ziW:zD Tryz.prog 20 (zdb alg):=by
  intro args hp r h
  unfold zdb at h
  split at h
  · cases h;exact fun hn=>num_ _ hn
  · cases h
def ziV:Know Tryz.prog:=⟨20,zdb,ziW⟩
def ziU:Know Tryz.prog:=⟨20,fun I=>zH I (zdb I),zf ziW⟩
end Go.Proofs.YtmibhbdfigpkmaaGreatDoor
namespace Go.Proofs.YtmibhbdfigpkmaaGreatDoor
open Go Go.Sep Go.Ab
set_option maxRecDepth 100000
def cfgQ:Cfg:= { sl:=[⟨82,0,.byte,some 5⟩,⟨57,5,.fld,some 51⟩,⟨57,9,.evt,some 32⟩]}
def zC (q:Rq):Prop:=q.out.length≤10000000
theorem zkv:Spc Tryz.prog 8 [] [] (.ret (.v (.one (.ptr 0 0)))) [.abs (.rq rq0)]:=by
  refine spcG zi mixed Tryz.func8 (by kernel_rfl) { cfgQ with keep:=some [0]} [zdm,zdl] (by kernel_rfl) ?_
  intro I X hI hX
  refine zh (.need (I.hid (α:=(Prop)) True) (.fin (.ret (.v (.one (.ptr 0 0)))) [(.abs (.rq (Go.Ab.Rq.mk (Go.Ab.Ln.mk (I.hid (α:=Str) ([]:Str)) Bool.false (0:Int)) (0:Int) (Hd.mk ([]:Str) ([]:Str) (0:Int) ([]:List Fld) (0:Int)) (0:Int) (Option.none) Bool.true ([]:List Go.Ab.Evt))))])) (by kernel_rfl) ?_
  simp only [zy]
  subst hI
  simp only [nrmA,nrmB,nrlB,reduceCtorEq,HO.abs.injEq,Gh.rq.injEq,Rq.mk.injEq]
  rfl
def Ws (I:Alg) (args:List D) (hp:List HO):Option CT:=match args,hp with
  |[],[]=>(fun(_:Unit)=>(some (.one ⟨I.hid (True),(.ret (.v (.one (.ptr 0 0)))),[.abs (.rq rq0)]⟩):Option CT)) ()
  |_,_=>none
theorem zcQ:zD Tryz.prog 8 (Ws alg):=by
  intro args hp r h
  unfold Ws at h
  split at h
  · cases h;exact fun hn=>zkv
  · cases h
def S9:Know Tryz.prog:=⟨8,Ws,zcQ⟩
def SY:Know Tryz.prog:=⟨8,fun I=>zH I (Ws I),zf zcQ⟩
theorem zcN (ln:Ln) (p:Int) (m tg:Str) (hm:Int) (hf:List Fld) (hl le:Int) (out:List Evt) (k:Int) (ea eb:Str) (ei:Int) (ef:List Fld) (en:Int) (ebs ex ey ez et:Str) (ec:Int) (hneed:zC ⟨ln,p,⟨m,tg,hm,hf,hl⟩,le,none,true,out⟩):Spc Tryz.prog 45 [.v (.one (.ptr 0 0)),.v (.agg [(.p (.int .i64 k)),(.p (.str ea)),(.p (.str eb)),(.p (.int .i64 ei)),(.p (.list .fld ef)),(.p (.int .i64 en)),(.p (.list .byte ebs)),(.p (.str ex)),(.p (.str ey)),(.p (.str ez)),(.p (.list .byte et)),(.p (.int .i64 ec))])] [.abs (.rq ⟨ln,p,⟨m,tg,hm,hf,hl⟩,le,none,true,out⟩)] (.ret (.tup [])) [.abs (.rq ⟨ln,p,⟨m,tg,hm,hf,hl⟩,le,none,true,(out++[⟨k,⟨ea,eb,ei,ef,en⟩,ebs,⟨ex,ey,ez,et⟩,ec⟩])⟩)]:=by
  unfold zC at hneed
  simp only at hneed
  refine spcG zi mixed Tryz.func45 (by kernel_rfl) { cfgQ with keep:=some [0,1,3]} [] (by kernel_rfl) ?_
  intro I X hI hX
  refine zh (let y0:=I.few (I.add (I.len (α:=Go.Ab.Evt) out) (I.len (α:=Go.Ab.Evt) ([(Go.Ab.Evt.mk k (Hd.mk ea eb ei ef en) ebs (Go.Ab.Prt.mk ex ey ez et) ec)]:List Go.Ab.Evt))) 100000000;.both (.need y0 (.fin (.ret (.tup [])) [(.abs (.rq (Go.Ab.Rq.mk (Go.Ab.Ln.mk (Go.Ab.Ln.b ln) (Go.Ab.Ln.cr ln) (Go.Ab.Ln.code ln)) p (Hd.mk m tg hm hf hl) le (Option.none) Bool.true (I.app (α:=Go.Ab.Evt) out ([(Go.Ab.Evt.mk k (Hd.mk ea eb ei ef en) ebs (Go.Ab.Prt.mk ex ey ez et) ec)]:List Go.Ab.Evt)))))])) (.need y0 (.fin (.ret (.tup [])) [(.abs (.rq (Go.Ab.Rq.mk (Go.Ab.Ln.mk (Go.Ab.Ln.b ln) (Go.Ab.Ln.cr ln) (Go.Ab.Ln.code ln)) p (Hd.mk m tg hm hf hl) le (Option.none) Bool.true (I.app (α:=Go.Ab.Evt) out ([(Go.Ab.Evt.mk k (Hd.mk ea eb ei ef en) ebs (Go.Ab.Prt.mk ex ey ez et) ec)]:List Go.Ab.Evt)))))]))) (by kernel_rfl) ?_
  simp only [zy]
  subst hI
  simp only [nrmA,nrmB,nrlB,reduceCtorEq,HO.abs.injEq,Gh.rq.injEq,Rq.mk.injEq]
  (repeat' (first|refine And.intro ?_ ?_|intro _))<;>first|omega|exact True.intro|exact False.elim ‹False›|skip
  all_goals first
    |omega
    |rfl
    |with_reducible assumption
    |(simp only [List.length_cons,List.length_nil];omega)
    |(simp;done)
def qP (I:Alg) (args:List D) (hp:List HO):Option CT:=match args,hp with
  |[.v (.one (.ptr 0 0)),.v (.agg [(.p (.int .i64 k)),(.p (.str ea)),(.p (.str eb)),(.p (.int .i64 ei)),(.p (.list .fld ef)),(.p (.int .i64 en)),(.p (.list .byte ebs)),(.p (.str ex)),(.p (.str ey)),(.p (.str ez)),(.p (.list .byte et)),(.p (.int .i64 ec))])],[.abs (.rq ⟨ln,p,⟨m,tg,hm,hf,hl⟩,le,none,true,out⟩)]=>(fun(ln:Ln) (p:Int) (m tg:Str) (hm:Int) (hf:List Fld) (hl le:Int) (out:List Evt) (k:Int) (ea eb:Str) (ei:Int) (ef:List Fld) (en:Int) (ebs ex ey ez et:Str) (ec:Int)=>(some (.one ⟨I.hid (zC ⟨ln,p,⟨m,tg,hm,hf,hl⟩,le,none,true,out⟩),(.ret (.tup [])),[.abs (.rq ⟨ln,p,⟨m,tg,hm,hf,hl⟩,le,none,true,(I.hid (out++[⟨k,⟨ea,eb,ei,ef,en⟩,ebs,⟨ex,ey,ez,et⟩,ec⟩]))⟩)]⟩):Option CT)) ln p m tg hm hf hl le out k ea eb ei ef en ebs ex ey ez et ec
  |_,_=>none
theorem UZ:zD Tryz.prog 45 (qP alg):=by
  intro args hp r h
  unfold qP at h
  split at h
  · cases h;exact fun hn=>zcN _ _ _ _ _ _ _ _ _ _ _ _ _ _ _ _ _ _ _ _ _ hn
  · cases h
def zW:Know Tryz.prog:=⟨45,qP,UZ⟩
def zV:Know Tryz.prog:=⟨45,fun I=>zH I (qP I),zf UZ⟩
theorem zcO (ln:Ln) (p:Int) (m tg:Str) (hm:Int) (hf:List Fld) (hl le:Int) (out:List Evt) (k:Int) (ea eb:Str) (ei:Int) (ef:List Fld) (en:Int) (ebs ex ey ez et:Str) (ec:Int) (hneed:zC ⟨ln,p,⟨m,tg,hm,hf,hl⟩,le,none,false,out⟩):Spc Tryz.prog 45 [.v (.one (.ptr 0 0)),.v (.agg [(.p (.int .i64 k)),(.p (.str ea)),(.p (.str eb)),(.p (.int .i64 ei)),(.p (.list .fld ef)),(.p (.int .i64 en)),(.p (.list .byte ebs)),(.p (.str ex)),(.p (.str ey)),(.p (.str ez)),(.p (.list .byte et)),(.p (.int .i64 ec))])] [.abs (.rq ⟨ln,p,⟨m,tg,hm,hf,hl⟩,le,none,false,out⟩)] (.ret (.tup [])) [.abs (.rq ⟨ln,p,⟨m,tg,hm,hf,hl⟩,le,none,false,(out++[⟨k,⟨ea,eb,ei,ef,en⟩,ebs,⟨ex,ey,ez,et⟩,ec⟩])⟩)]:=by
  unfold zC at hneed
  simp only at hneed
  refine spcG zi mixed Tryz.func45 (by kernel_rfl) { cfgQ with keep:=some [0,1,3]} [zW,zV] (by kernel_rfl) ?_
  intro I X hI hX
  refine zh (let y0:=I.few (I.add (I.len (α:=Go.Ab.Evt) out) (I.len (α:=Go.Ab.Evt) ([(Go.Ab.Evt.mk k (Hd.mk ea eb ei ef en) ebs (Go.Ab.Prt.mk ex ey ez et) ec)]:List Go.Ab.Evt))) 100000000;.both (.need y0 (.fin (.ret (.tup [])) [(.abs (.rq (Go.Ab.Rq.mk (Go.Ab.Ln.mk (Go.Ab.Ln.b ln) (Go.Ab.Ln.cr ln) (Go.Ab.Ln.code ln)) p (Hd.mk m tg hm hf hl) le (Option.none) Bool.false (I.app (α:=Go.Ab.Evt) out ([(Go.Ab.Evt.mk k (Hd.mk ea eb ei ef en) ebs (Go.Ab.Prt.mk ex ey ez et) ec)]:List Go.Ab.Evt)))))])) (.need y0 (.fin (.ret (.tup [])) [(.abs (.rq (Go.Ab.Rq.mk (Go.Ab.Ln.mk (Go.Ab.Ln.b ln) (Go.Ab.Ln.cr ln) (Go.Ab.Ln.code ln)) p (Hd.mk m tg hm hf hl) le (Option.none) Bool.false (I.app (α:=Go.Ab.Evt) out ([(Go.Ab.Evt.mk k (Hd.mk ea eb ei ef en) ebs (Go.Ab.Prt.mk ex ey ez et) ec)]:List Go.Ab.Evt)))))]))) (by kernel_rfl) ?_
  simp only [zy]
  subst hI
  simp only [nrmA,nrmB,nrlB,reduceCtorEq,HO.abs.injEq,Gh.rq.injEq,Rq.mk.injEq]
  (repeat' (first|refine And.intro ?_ ?_|intro _))<;>first|omega|exact True.intro|exact False.elim ‹False›|skip
  all_goals first
    |omega
    |rfl
    |with_reducible assumption
    |(simp only [List.length_cons,List.length_nil];omega)
    |(simp;done)
def qQ (I:Alg) (args:List D) (hp:List HO):Option CT:=match args,hp with
  |[.v (.one (.ptr 0 0)),.v (.agg [(.p (.int .i64 k)),(.p (.str ea)),(.p (.str eb)),(.p (.int .i64 ei)),(.p (.list .fld ef)),(.p (.int .i64 en)),(.p (.list .byte ebs)),(.p (.str ex)),(.p (.str ey)),(.p (.str ez)),(.p (.list .byte et)),(.p (.int .i64 ec))])],[.abs (.rq ⟨ln,p,⟨m,tg,hm,hf,hl⟩,le,none,false,out⟩)]=>(fun(ln:Ln) (p:Int) (m tg:Str) (hm:Int) (hf:List Fld) (hl le:Int) (out:List Evt) (k:Int) (ea eb:Str) (ei:Int) (ef:List Fld) (en:Int) (ebs ex ey ez et:Str) (ec:Int)=>(some (.one ⟨I.hid (zC ⟨ln,p,⟨m,tg,hm,hf,hl⟩,le,none,false,out⟩),(.ret (.tup [])),[.abs (.rq ⟨ln,p,⟨m,tg,hm,hf,hl⟩,le,none,false,(I.hid (out++[⟨k,⟨ea,eb,ei,ef,en⟩,ebs,⟨ex,ey,ez,et⟩,ec⟩]))⟩)]⟩):Option CT)) ln p m tg hm hf hl le out k ea eb ei ef en ebs ex ey ez et ec
  |_,_=>none
theorem U0:zD Tryz.prog 45 (qQ alg):=by
  intro args hp r h
  unfold qQ at h
  split at h
  · cases h;exact fun hn=>zcO _ _ _ _ _ _ _ _ _ _ _ _ _ _ _ _ _ _ _ _ _ hn
  · cases h
def zZ:Know Tryz.prog:=⟨45,qQ,U0⟩
def zY:Know Tryz.prog:=⟨45,fun I=>zH I (qQ I),zf U0⟩
theorem zcL (ln:Ln) (p:Int) (m tg:Str) (hm:Int) (hf:List Fld) (hl le:Int) (ch:Ch) (out:List Evt) (k:Int) (ea eb:Str) (ei:Int) (ef:List Fld) (en:Int) (ebs ex ey ez et:Str) (ec:Int) (hneed:zC ⟨ln,p,⟨m,tg,hm,hf,hl⟩,le,some ch,true,out⟩):Spc Tryz.prog 45 [.v (.one (.ptr 0 0)),.v (.agg [(.p (.int .i64 k)),(.p (.str ea)),(.p (.str eb)),(.p (.int .i64 ei)),(.p (.list .fld ef)),(.p (.int .i64 en)),(.p (.list .byte ebs)),(.p (.str ex)),(.p (.str ey)),(.p (.str ez)),(.p (.list .byte et)),(.p (.int .i64 ec))])] [.abs (.rq ⟨ln,p,⟨m,tg,hm,hf,hl⟩,le,some ch,true,out⟩)] (.ret (.tup [])) [.abs (.rq ⟨ln,p,⟨m,tg,hm,hf,hl⟩,le,some ch,true,(out++[⟨k,⟨ea,eb,ei,ef,en⟩,ebs,⟨ex,ey,ez,et⟩,ec⟩])⟩)]:=by
  unfold zC at hneed
  simp only at hneed
  refine spcG zi mixed Tryz.func45 (by kernel_rfl) { cfgQ with keep:=some [0,1,3]} [zW,zV,zZ,zY] (by kernel_rfl) ?_
  intro I X hI hX
  refine zh (let y0:=I.few (I.add (I.len (α:=Go.Ab.Evt) out) (I.len (α:=Go.Ab.Evt) ([(Go.Ab.Evt.mk k (Hd.mk ea eb ei ef en) ebs (Go.Ab.Prt.mk ex ey ez et) ec)]:List Go.Ab.Evt))) 100000000;.both (.need y0 (.fin (.ret (.tup [])) [(.abs (.rq (Go.Ab.Rq.mk (Go.Ab.Ln.mk (Go.Ab.Ln.b ln) (Go.Ab.Ln.cr ln) (Go.Ab.Ln.code ln)) p (Hd.mk m tg hm hf hl) le (Option.some (Go.Ab.Ch.mk (Go.Ab.Ln.mk (Go.Ab.Ln.b (Go.Ab.Ch.ln ch)) (Go.Ab.Ln.cr (Go.Ab.Ch.ln ch)) (Go.Ab.Ln.code (Go.Ab.Ch.ln ch))) (Go.Ab.Ch.pos ch) (Go.Ab.Ch.left ch) (Go.Ab.Ch.all ch) (Go.Ab.Ch.tails ch) (Go.Ab.Ch.code ch))) Bool.true (I.app (α:=Go.Ab.Evt) out ([(Go.Ab.Evt.mk k (Hd.mk ea eb ei ef en) ebs (Go.Ab.Prt.mk ex ey ez et) ec)]:List Go.Ab.Evt)))))])) (.need y0 (.fin (.ret (.tup [])) [(.abs (.rq (Go.Ab.Rq.mk (Go.Ab.Ln.mk (Go.Ab.Ln.b ln) (Go.Ab.Ln.cr ln) (Go.Ab.Ln.code ln)) p (Hd.mk m tg hm hf hl) le (Option.some (Go.Ab.Ch.mk (Go.Ab.Ln.mk (Go.Ab.Ln.b (Go.Ab.Ch.ln ch)) (Go.Ab.Ln.cr (Go.Ab.Ch.ln ch)) (Go.Ab.Ln.code (Go.Ab.Ch.ln ch))) (Go.Ab.Ch.pos ch) (Go.Ab.Ch.left ch) (Go.Ab.Ch.all ch) (Go.Ab.Ch.tails ch) (Go.Ab.Ch.code ch))) Bool.true (I.app (α:=Go.Ab.Evt) out ([(Go.Ab.Evt.mk k (Hd.mk ea eb ei ef en) ebs (Go.Ab.Prt.mk ex ey ez et) ec)]:List Go.Ab.Evt)))))]))) (by kernel_rfl) ?_
  simp only [zy]
  subst hI
  simp only [nrmA,nrmB,nrlB,reduceCtorEq,HO.abs.injEq,Gh.rq.injEq,Rq.mk.injEq]
  (repeat' (first|refine And.intro ?_ ?_|intro _))<;>first|omega|exact True.intro|exact False.elim ‹False›|skip
  all_goals first
    |omega
    |rfl
    |with_reducible assumption
    |(simp only [List.length_cons,List.length_nil];omega)
    |(simp;done)
def qN (I:Alg) (args:List D) (hp:List HO):Option CT:=match args,hp with
  |[.v (.one (.ptr 0 0)),.v (.agg [(.p (.int .i64 k)),(.p (.str ea)),(.p (.str eb)),(.p (.int .i64 ei)),(.p (.list .fld ef)),(.p (.int .i64 en)),(.p (.list .byte ebs)),(.p (.str ex)),(.p (.str ey)),(.p (.str ez)),(.p (.list .byte et)),(.p (.int .i64 ec))])],[.abs (.rq ⟨ln,p,⟨m,tg,hm,hf,hl⟩,le,some ch,true,out⟩)]=>(fun(ln:Ln) (p:Int) (m tg:Str) (hm:Int) (hf:List Fld) (hl le:Int) (ch:Ch) (out:List Evt) (k:Int) (ea eb:Str) (ei:Int) (ef:List Fld) (en:Int) (ebs ex ey ez et:Str) (ec:Int)=>(some (.one ⟨I.hid (zC ⟨ln,p,⟨m,tg,hm,hf,hl⟩,le,some ch,true,out⟩),(.ret (.tup [])),[.abs (.rq ⟨ln,p,⟨m,tg,hm,hf,hl⟩,le,some ch,true,(I.hid (out++[⟨k,⟨ea,eb,ei,ef,en⟩,ebs,⟨ex,ey,ez,et⟩,ec⟩]))⟩)]⟩):Option CT)) ln p m tg hm hf hl le ch out k ea eb ei ef en ebs ex ey ez et ec
  |_,_=>none
theorem UX:zD Tryz.prog 45 (qN alg):=by
  intro args hp r h
  unfold qN at h
  split at h
  · cases h;exact fun hn=>zcL _ _ _ _ _ _ _ _ _ _ _ _ _ _ _ _ _ _ _ _ _ _ hn
  · cases h
def yw:Know Tryz.prog:=⟨45,qN,UX⟩
def yu:Know Tryz.prog:=⟨45,fun I=>zH I (qN I),zf UX⟩
theorem zcM (ln:Ln) (p:Int) (m tg:Str) (hm:Int) (hf:List Fld) (hl le:Int) (ch:Ch) (out:List Evt) (k:Int) (ea eb:Str) (ei:Int) (ef:List Fld) (en:Int) (ebs ex ey ez et:Str) (ec:Int) (hneed:zC ⟨ln,p,⟨m,tg,hm,hf,hl⟩,le,some ch,false,out⟩):Spc Tryz.prog 45 [.v (.one (.ptr 0 0)),.v (.agg [(.p (.int .i64 k)),(.p (.str ea)),(.p (.str eb)),(.p (.int .i64 ei)),(.p (.list .fld ef)),(.p (.int .i64 en)),(.p (.list .byte ebs)),(.p (.str ex)),(.p (.str ey)),(.p (.str ez)),(.p (.list .byte et)),(.p (.int .i64 ec))])] [.abs (.rq ⟨ln,p,⟨m,tg,hm,hf,hl⟩,le,some ch,false,out⟩)] (.ret (.tup [])) [.abs (.rq ⟨ln,p,⟨m,tg,hm,hf,hl⟩,le,some ch,false,(out++[⟨k,⟨ea,eb,ei,ef,en⟩,ebs,⟨ex,ey,ez,et⟩,ec⟩])⟩)]:=by
  unfold zC at hneed
  simp only at hneed
  refine spcG zi mixed Tryz.func45 (by kernel_rfl) { cfgQ with keep:=some [0,1,3]} [zW,zV,zZ,zY,yw,yu] (by kernel_rfl) ?_
  intro I X hI hX
  refine zh (let y0:=I.few (I.add (I.len (α:=Go.Ab.Evt) out) (I.len (α:=Go.Ab.Evt) ([(Go.Ab.Evt.mk k (Hd.mk ea eb ei ef en) ebs (Go.Ab.Prt.mk ex ey ez et) ec)]:List Go.Ab.Evt))) 100000000;.both (.need y0 (.fin (.ret (.tup [])) [(.abs (.rq (Go.Ab.Rq.mk (Go.Ab.Ln.mk (Go.Ab.Ln.b ln) (Go.Ab.Ln.cr ln) (Go.Ab.Ln.code ln)) p (Hd.mk m tg hm hf hl) le (Option.some (Go.Ab.Ch.mk (Go.Ab.Ln.mk (Go.Ab.Ln.b (Go.Ab.Ch.ln ch)) (Go.Ab.Ln.cr (Go.Ab.Ch.ln ch)) (Go.Ab.Ln.code (Go.Ab.Ch.ln ch))) (Go.Ab.Ch.pos ch) (Go.Ab.Ch.left ch) (Go.Ab.Ch.all ch) (Go.Ab.Ch.tails ch) (Go.Ab.Ch.code ch))) Bool.false (I.app (α:=Go.Ab.Evt) out ([(Go.Ab.Evt.mk k (Hd.mk ea eb ei ef en) ebs (Go.Ab.Prt.mk ex ey ez et) ec)]:List Go.Ab.Evt)))))])) (.need y0 (.fin (.ret (.tup [])) [(.abs (.rq (Go.Ab.Rq.mk (Go.Ab.Ln.mk (Go.Ab.Ln.b ln) (Go.Ab.Ln.cr ln) (Go.Ab.Ln.code ln)) p (Hd.mk m tg hm hf hl) le (Option.some (Go.Ab.Ch.mk (Go.Ab.Ln.mk (Go.Ab.Ln.b (Go.Ab.Ch.ln ch)) (Go.Ab.Ln.cr (Go.Ab.Ch.ln ch)) (Go.Ab.Ln.code (Go.Ab.Ch.ln ch))) (Go.Ab.Ch.pos ch) (Go.Ab.Ch.left ch) (Go.Ab.Ch.all ch) (Go.Ab.Ch.tails ch) (Go.Ab.Ch.code ch))) Bool.false (I.app (α:=Go.Ab.Evt) out ([(Go.Ab.Evt.mk k (Hd.mk ea eb ei ef en) ebs (Go.Ab.Prt.mk ex ey ez et) ec)]:List Go.Ab.Evt)))))]))) (by kernel_rfl) ?_
  simp only [zy]
  subst hI
  simp only [nrmA,nrmB,nrlB,reduceCtorEq,HO.abs.injEq,Gh.rq.injEq,Rq.mk.injEq]
  (repeat' (first|refine And.intro ?_ ?_|intro _))<;>first|omega|exact True.intro|exact False.elim ‹False›|skip
  all_goals first
    |omega
    |rfl
    |with_reducible assumption
    |(simp only [List.length_cons,List.length_nil];omega)
    |(simp;done)
def qO (I:Alg) (args:List D) (hp:List HO):Option CT:=match args,hp with
  |[.v (.one (.ptr 0 0)),.v (.agg [(.p (.int .i64 k)),(.p (.str ea)),(.p (.str eb)),(.p (.int .i64 ei)),(.p (.list .fld ef)),(.p (.int .i64 en)),(.p (.list .byte ebs)),(.p (.str ex)),(.p (.str ey)),(.p (.str ez)),(.p (.list .byte et)),(.p (.int .i64 ec))])],[.abs (.rq ⟨ln,p,⟨m,tg,hm,hf,hl⟩,le,some ch,false,out⟩)]=>(fun(ln:Ln) (p:Int) (m tg:Str) (hm:Int) (hf:List Fld) (hl le:Int) (ch:Ch) (out:List Evt) (k:Int) (ea eb:Str) (ei:Int) (ef:List Fld) (en:Int) (ebs ex ey ez et:Str) (ec:Int)=>(some (.one ⟨I.hid (zC ⟨ln,p,⟨m,tg,hm,hf,hl⟩,le,some ch,false,out⟩),(.ret (.tup [])),[.abs (.rq ⟨ln,p,⟨m,tg,hm,hf,hl⟩,le,some ch,false,(I.hid (out++[⟨k,⟨ea,eb,ei,ef,en⟩,ebs,⟨ex,ey,ez,et⟩,ec⟩]))⟩)]⟩):Option CT)) ln p m tg hm hf hl le ch out k ea eb ei ef en ebs ex ey ez et ec
  |_,_=>none
theorem UY:zD Tryz.prog 45 (qO alg):=by
  intro args hp r h
  unfold qO at h
  split at h
  · cases h;exact fun hn=>zcM _ _ _ _ _ _ _ _ _ _ _ _ _ _ _ _ _ _ _ _ _ _ hn
  · cases h
def yD:Know Tryz.prog:=⟨45,qO,UY⟩
def yC:Know Tryz.prog:=⟨45,fun I=>zH I (qO I),zf UY⟩
theorem zkt (q:Rq) (k:Int) (ea eb:Str) (ei:Int) (ef:List Fld) (en:Int) (ebs ex ey ez et:Str) (ec:Int) (hneed:zC q):Spc Tryz.prog 45 [.v (.one (.ptr 0 0)),.v (.agg [(.p (.int .i64 k)),(.p (.str ea)),(.p (.str eb)),(.p (.int .i64 ei)),(.p (.list .fld ef)),(.p (.int .i64 en)),(.p (.list .byte ebs)),(.p (.str ex)),(.p (.str ey)),(.p (.str ez)),(.p (.list .byte et)),(.p (.int .i64 ec))])] [.abs (.rq q)] (.ret (.tup [])) [.abs (.rq ((zku q ⟨k,⟨ea,eb,ei,ef,en⟩,ebs,⟨ex,ey,ez,et⟩,ec⟩)))]:=by
  obtain⟨ln,p,⟨m,tg,hm,hf,hl⟩,le,ck,own,out⟩:=q
  cases ck with
  | none=>cases own with
    |true=>exact zcN ln p m tg hm hf hl le out k ea eb ei ef en ebs ex ey ez et ec hneed
    |false=>exact zcO ln p m tg hm hf hl le out k ea eb ei ef en ebs ex ey ez et ec hneed
  | some ch=>cases own with
    |true=>exact zcL ln p m tg hm hf hl le ch out k ea eb ei ef en ebs ex ey ez et ec hneed
    |false=>exact zcM ln p m tg hm hf hl le ch out k ea eb ei ef en ebs ex ey ez et ec hneed
def Wq (I:Alg) (args:List D) (hp:List HO):Option CT:=match args,hp with
  |[.v (.one (.ptr 0 0)),.v (.agg [(.p (.int .i64 k)),(.p (.str ea)),(.p (.str eb)),(.p (.int .i64 ei)),(.p (.list .fld ef)),(.p (.int .i64 en)),(.p (.list .byte ebs)),(.p (.str ex)),(.p (.str ey)),(.p (.str ez)),(.p (.list .byte et)),(.p (.int .i64 ec))])],[.abs (.rq q)]=>(fun(q:Rq) (k:Int) (ea eb:Str) (ei:Int) (ef:List Fld) (en:Int) (ebs ex ey ez et:Str) (ec:Int)=>(some (.one ⟨I.hid (zC q),(.ret (.tup [])),[.abs (.rq (I.hid ((zku q ⟨k,⟨ea,eb,ei,ef,en⟩,ebs,⟨ex,ey,ez,et⟩,ec⟩))))]⟩):Option CT)) q k ea eb ei ef en ebs ex ey ez et ec
  |_,_=>none
theorem zcP:zD Tryz.prog 45 (Wq alg):=by
  intro args hp r h
  unfold Wq at h
  split at h
  · cases h;exact fun hn=>zkt _ _ _ _ _ _ _ _ _ _ _ _ _ hn
  · cases h
def xH:Know Tryz.prog:=⟨45,Wq,zcP⟩
def xG:Know Tryz.prog:=⟨45,fun I=>zH I (Wq I),zf zcP⟩
theorem zfB (ln:Ln) (p:Int) (m tg:Str) (hm:Int) (hf:List Fld) (hl le:Int) (out:List Evt) (c:Int) (hneed:zC ⟨ln,p,⟨m,tg,hm,hf,hl⟩,le,none,true,out⟩):Spc Tryz.prog 48 [.v (.one (.ptr 0 0)),.v (.one (.p (.int .i64 c)))] [.abs (.rq ⟨ln,p,⟨m,tg,hm,hf,hl⟩,le,none,true,out⟩)] (.ret (.tup [])) [.abs (.rq ((yc ⟨ln,p,⟨m,tg,hm,hf,hl⟩,le,none,true,out⟩ c)))]:=by
  unfold zC at hneed
  simp only at hneed
  refine spcG zi mixed Tryz.func48 (by kernel_rfl) { cfgQ with keep:=some [0,1]} [zW,zV,zZ,zY,yw,yu,yD,yC,xH,xG] (by kernel_rfl) ?_
  intro I X hI hX
  refine zh (.need (I.hid (α:=(Prop)) (zC (Go.Ab.Rq.mk (Go.Ab.Ln.mk (Go.Ab.Ln.b ln) (Go.Ab.Ln.cr ln) (Go.Ab.Ln.code ln)) (4:Int) (Hd.mk m tg hm hf hl) le (Option.none) Bool.true out))) (.fin (.ret (.tup [])) [(.abs (.rq (Go.Ab.Rq.mk (Go.Ab.Ln.mk (Go.Ab.Ln.b ln) (Go.Ab.Ln.cr ln) (Go.Ab.Ln.code ln)) (4:Int) (Hd.mk m tg hm hf hl) le (Option.none) Bool.true (I.hid (α:=(List Go.Ab.Evt)) (HAppend.hAppend out ([(Go.Ab.Evt.mk (4:Int) (Hd.mk ([]:Str) ([]:Str) (0:Int) ([]:List Fld) (0:Int)) ([]:Str) (Go.Ab.Prt.mk ([]:Str) ([]:Str) ([]:Str) ([]:Str)) c)]:List Go.Ab.Evt))))))])) (by kernel_rfl) ?_
  simp only [zy]
  subst hI
  simp only [nrmA,nrmB,nrlB,reduceCtorEq,HO.abs.injEq,Gh.rq.injEq,Rq.mk.injEq]
  (repeat' (first|refine And.intro ?_ ?_|intro _))<;>first|omega|exact True.intro|exact False.elim ‹False›|skip
  all_goals first
    |omega
    |rfl
    |with_reducible assumption
    |(simp only [List.length_cons,List.length_nil];omega)
    |(unfold zC;simp only;omega)
    |(simp;done)
theorem zfC (ln:Ln) (p:Int) (m tg:Str) (hm:Int) (hf:List Fld) (hl le:Int) (out:List Evt) (c:Int) (hneed:zC ⟨ln,p,⟨m,tg,hm,hf,hl⟩,le,none,false,out⟩):Spc Tryz.prog 48 [.v (.one (.ptr 0 0)),.v (.one (.p (.int .i64 c)))] [.abs (.rq ⟨ln,p,⟨m,tg,hm,hf,hl⟩,le,none,false,out⟩)] (.ret (.tup [])) [.abs (.rq ((yc ⟨ln,p,⟨m,tg,hm,hf,hl⟩,le,none,false,out⟩ c)))]:=by
  unfold zC at hneed
  simp only at hneed
  refine spcG zi mixed Tryz.func48 (by kernel_rfl) { cfgQ with keep:=some [0,1]} [zW,zV,zZ,zY,yw,yu,yD,yC,xH,xG] (by kernel_rfl) ?_
  intro I X hI hX
  refine zh (.need (I.hid (α:=(Prop)) (zC (Go.Ab.Rq.mk (Go.Ab.Ln.mk (Go.Ab.Ln.b ln) (Go.Ab.Ln.cr ln) (Go.Ab.Ln.code ln)) (4:Int) (Hd.mk m tg hm hf hl) le (Option.none) Bool.false out))) (.fin (.ret (.tup [])) [(.abs (.rq (Go.Ab.Rq.mk (Go.Ab.Ln.mk (Go.Ab.Ln.b ln) (Go.Ab.Ln.cr ln) (Go.Ab.Ln.code ln)) (4:Int) (Hd.mk m tg hm hf hl) le (Option.none) Bool.false (I.hid (α:=(List Go.Ab.Evt)) (HAppend.hAppend out ([(Go.Ab.Evt.mk (4:Int) (Hd.mk ([]:Str) ([]:Str) (0:Int) ([]:List Fld) (0:Int)) ([]:Str) (Go.Ab.Prt.mk ([]:Str) ([]:Str) ([]:Str) ([]:Str)) c)]:List Go.Ab.Evt))))))])) (by kernel_rfl) ?_
  simp only [zy]
  subst hI
  simp only [nrmA,nrmB,nrlB,reduceCtorEq,HO.abs.injEq,Gh.rq.injEq,Rq.mk.injEq]
  (repeat' (first|refine And.intro ?_ ?_|intro _))<;>first|omega|exact True.intro|exact False.elim ‹False›|skip
  all_goals first
    |omega
    |rfl
    |with_reducible assumption
    |(simp only [List.length_cons,List.length_nil];omega)
    |(unfold zC;simp only;omega)
    |(simp;done)
theorem zfz (ln:Ln) (p:Int) (m tg:Str) (hm:Int) (hf:List Fld) (hl le:Int) (ch:Ch) (out:List Evt) (c:Int) (hneed:zC ⟨ln,p,⟨m,tg,hm,hf,hl⟩,le,some ch,true,out⟩):Spc Tryz.prog 48 [.v (.one (.ptr 0 0)),.v (.one (.p (.int .i64 c)))] [.abs (.rq ⟨ln,p,⟨m,tg,hm,hf,hl⟩,le,some ch,true,out⟩)] (.ret (.tup [])) [.abs (.rq ((yc ⟨ln,p,⟨m,tg,hm,hf,hl⟩,le,some ch,true,out⟩ c)))]:=by
  unfold zC at hneed
  simp only at hneed
  refine spcG zi mixed Tryz.func48 (by kernel_rfl) { cfgQ with keep:=some [0,1]} [zW,zV,zZ,zY,yw,yu,yD,yC,xH,xG] (by kernel_rfl) ?_
  intro I X hI hX
  refine zh (.need (I.hid (α:=(Prop)) (zC (Go.Ab.Rq.mk (Go.Ab.Ln.mk (Go.Ab.Ln.b ln) (Go.Ab.Ln.cr ln) (Go.Ab.Ln.code ln)) (4:Int) (Hd.mk m tg hm hf hl) le (Option.some (Go.Ab.Ch.mk (Go.Ab.Ln.mk (Go.Ab.Ln.b (Go.Ab.Ch.ln ch)) (Go.Ab.Ln.cr (Go.Ab.Ch.ln ch)) (Go.Ab.Ln.code (Go.Ab.Ch.ln ch))) (Go.Ab.Ch.pos ch) (Go.Ab.Ch.left ch) (Go.Ab.Ch.all ch) (Go.Ab.Ch.tails ch) (Go.Ab.Ch.code ch))) Bool.true out))) (.fin (.ret (.tup [])) [(.abs (.rq (Go.Ab.Rq.mk (Go.Ab.Ln.mk (Go.Ab.Ln.b ln) (Go.Ab.Ln.cr ln) (Go.Ab.Ln.code ln)) (4:Int) (Hd.mk m tg hm hf hl) le (Option.some (Go.Ab.Ch.mk (Go.Ab.Ln.mk (Go.Ab.Ln.b (Go.Ab.Ch.ln ch)) (Go.Ab.Ln.cr (Go.Ab.Ch.ln ch)) (Go.Ab.Ln.code (Go.Ab.Ch.ln ch))) (Go.Ab.Ch.pos ch) (Go.Ab.Ch.left ch) (Go.Ab.Ch.all ch) (Go.Ab.Ch.tails ch) (Go.Ab.Ch.code ch))) Bool.true (I.hid (α:=(List Go.Ab.Evt)) (HAppend.hAppend out ([(Go.Ab.Evt.mk (4:Int) (Hd.mk ([]:Str) ([]:Str) (0:Int) ([]:List Fld) (0:Int)) ([]:Str) (Go.Ab.Prt.mk ([]:Str) ([]:Str) ([]:Str) ([]:Str)) c)]:List Go.Ab.Evt))))))])) (by kernel_rfl) ?_
  simp only [zy]
  subst hI
  simp only [nrmA,nrmB,nrlB,reduceCtorEq,HO.abs.injEq,Gh.rq.injEq,Rq.mk.injEq]
  (repeat' (first|refine And.intro ?_ ?_|intro _))<;>first|omega|exact True.intro|exact False.elim ‹False›|skip
  all_goals first
    |omega
    |rfl
    |with_reducible assumption
    |(simp only [List.length_cons,List.length_nil];omega)
    |(unfold zC;simp only;omega)
    |(simp;done)
theorem zfA (ln:Ln) (p:Int) (m tg:Str) (hm:Int) (hf:List Fld) (hl le:Int) (ch:Ch) (out:List Evt) (c:Int) (hneed:zC ⟨ln,p,⟨m,tg,hm,hf,hl⟩,le,some ch,false,out⟩):Spc Tryz.prog 48 [.v (.one (.ptr 0 0)),.v (.one (.p (.int .i64 c)))] [.abs (.rq ⟨ln,p,⟨m,tg,hm,hf,hl⟩,le,some ch,false,out⟩)] (.ret (.tup [])) [.abs (.rq ((yc ⟨ln,p,⟨m,tg,hm,hf,hl⟩,le,some ch,false,out⟩ c)))]:=by
  unfold zC at hneed
  simp only at hneed
  refine spcG zi mixed Tryz.func48 (by kernel_rfl) { cfgQ with keep:=some [0,1]} [zW,zV,zZ,zY,yw,yu,yD,yC,xH,xG] (by kernel_rfl) ?_
  intro I X hI hX
  refine zh (.need (I.hid (α:=(Prop)) (zC (Go.Ab.Rq.mk (Go.Ab.Ln.mk (Go.Ab.Ln.b ln) (Go.Ab.Ln.cr ln) (Go.Ab.Ln.code ln)) (4:Int) (Hd.mk m tg hm hf hl) le (Option.some (Go.Ab.Ch.mk (Go.Ab.Ln.mk (Go.Ab.Ln.b (Go.Ab.Ch.ln ch)) (Go.Ab.Ln.cr (Go.Ab.Ch.ln ch)) (Go.Ab.Ln.code (Go.Ab.Ch.ln ch))) (Go.Ab.Ch.pos ch) (Go.Ab.Ch.left ch) (Go.Ab.Ch.all ch) (Go.Ab.Ch.tails ch) (Go.Ab.Ch.code ch))) Bool.false out))) (.fin (.ret (.tup [])) [(.abs (.rq (Go.Ab.Rq.mk (Go.Ab.Ln.mk (Go.Ab.Ln.b ln) (Go.Ab.Ln.cr ln) (Go.Ab.Ln.code ln)) (4:Int) (Hd.mk m tg hm hf hl) le (Option.some (Go.Ab.Ch.mk (Go.Ab.Ln.mk (Go.Ab.Ln.b (Go.Ab.Ch.ln ch)) (Go.Ab.Ln.cr (Go.Ab.Ch.ln ch)) (Go.Ab.Ln.code (Go.Ab.Ch.ln ch))) (Go.Ab.Ch.pos ch) (Go.Ab.Ch.left ch) (Go.Ab.Ch.all ch) (Go.Ab.Ch.tails ch) (Go.Ab.Ch.code ch))) Bool.false (I.hid (α:=(List Go.Ab.Evt)) (HAppend.hAppend out ([(Go.Ab.Evt.mk (4:Int) (Hd.mk ([]:Str) ([]:Str) (0:Int) ([]:List Fld) (0:Int)) ([]:Str) (Go.Ab.Prt.mk ([]:Str) ([]:Str) ([]:Str) ([]:Str)) c)]:List Go.Ab.Evt))))))])) (by kernel_rfl) ?_
  simp only [zy]
  subst hI
  simp only [nrmA,nrmB,nrlB,reduceCtorEq,HO.abs.injEq,Gh.rq.injEq,Rq.mk.injEq]
  (repeat' (first|refine And.intro ?_ ?_|intro _))<;>first|omega|exact True.intro|exact False.elim ‹False›|skip
  all_goals first
    |omega
    |rfl
    |with_reducible assumption
    |(simp only [List.length_cons,List.length_nil];omega)
    |(unfold zC;simp only;omega)
    |(simp;done)
theorem zjt (q:Rq) (c:Int) (hneed:zC q):Spc Tryz.prog 48 [.v (.one (.ptr 0 0)),.v (.one (.p (.int .i64 c)))] [.abs (.rq q)] (.ret (.tup [])) [.abs (.rq ((yc q c)))]:=by
  obtain⟨ln,p,⟨m,tg,hm,hf,hl⟩,le,ck,own,out⟩:=q
  cases ck with
  | none=>cases own with
    |true=>exact zfB ln p m tg hm hf hl le out c hneed
    |false=>exact zfC ln p m tg hm hf hl le out c hneed
  | some ch=>cases own with
    |true=>exact zfz ln p m tg hm hf hl le ch out c hneed
    |false=>exact zfA ln p m tg hm hf hl le ch out c hneed
def Yg (I:Alg) (args:List D) (hp:List HO):Option CT:=match args,hp with
  |[.v (.one (.ptr 0 0)),.v (.one (.p (.int .i64 c)))],[.abs (.rq q)]=>(fun(q:Rq) (c:Int)=>(some (.one ⟨I.hid (zC q),(.ret (.tup [])),[.abs (.rq (I.hid ((yc q c))))]⟩):Option CT)) q c
  |_,_=>none
theorem zaf:zD Tryz.prog 48 (Yg alg):=by
  intro args hp r h
  unfold Yg at h
  split at h
  · cases h;exact fun hn=>zjt _ _ hn
  · cases h
def Yf:Know Tryz.prog:=⟨48,Yg,zaf⟩
def Ye:Know Tryz.prog:=⟨48,fun I=>zH I (Yg I),zf zaf⟩
theorem zh1 (ln:Ln) (p:Int) (m tg:Str) (hm:Int) (hf:List Fld) (hl le:Int) (out:List Evt) (hneed:zC ⟨ln,p,⟨m,tg,hm,hf,hl⟩,le,none,true,out⟩):Spc Tryz.prog 46 [.v (.one (.ptr 0 0))] [.abs (.rq ⟨ln,p,⟨m,tg,hm,hf,hl⟩,le,none,true,out⟩)] (.ret (.tup [])) [.abs (.rq ((yU ⟨ln,p,⟨m,tg,hm,hf,hl⟩,le,none,true,out⟩)))]:=by
  unfold zC at hneed
  simp only at hneed
  refine spcG zi mixed Tryz.func46 (by kernel_rfl) { cfgQ with keep:=some [0]} [zW,zV,zZ,zY,yw,yu,yD,yC,xH,xG] (by kernel_rfl) ?_
  intro I X hI hX
  refine zh (.need (I.hid (α:=(Prop)) (zC (Go.Ab.Rq.mk ln p (Hd.mk m tg hm hf hl) le (Option.none) Bool.true out))) (.fin (.ret (.tup [])) [(.abs (.rq (Go.Ab.Rq.mk (Go.Ab.Ln.mk (Go.Ab.Ln.b ln) (Go.Ab.Ln.cr ln) (Go.Ab.Ln.code ln)) (0:Int) (Hd.mk ([]:Str) ([]:Str) (0:Int) ([]:List Fld) (0:Int)) le (Option.none) Bool.true (I.hid (α:=(List Go.Ab.Evt)) (HAppend.hAppend out ([(Go.Ab.Evt.mk (3:Int) (Hd.mk ([]:Str) ([]:Str) (0:Int) ([]:List Fld) (0:Int)) ([]:Str) (Go.Ab.Prt.mk ([]:Str) ([]:Str) ([]:Str) ([]:Str)) (0:Int))]:List Go.Ab.Evt))))))])) (by kernel_rfl) ?_
  simp only [zy]
  subst hI
  simp only [nrmA,nrmB,nrlB,reduceCtorEq,HO.abs.injEq,Gh.rq.injEq,Rq.mk.injEq]
  (repeat' (first|refine And.intro ?_ ?_|intro _))<;>first|omega|exact True.intro|exact False.elim ‹False›|skip
  all_goals first
    |omega
    |rfl
    |with_reducible assumption
    |(simp only [List.length_cons,List.length_nil];omega)
    |(unfold zC;simp only;omega)
    |(simp;done)
theorem zh2 (ln:Ln) (p:Int) (m tg:Str) (hm:Int) (hf:List Fld) (hl le:Int) (out:List Evt) (hneed:zC ⟨ln,p,⟨m,tg,hm,hf,hl⟩,le,none,false,out⟩):Spc Tryz.prog 46 [.v (.one (.ptr 0 0))] [.abs (.rq ⟨ln,p,⟨m,tg,hm,hf,hl⟩,le,none,false,out⟩)] (.ret (.tup [])) [.abs (.rq ((yU ⟨ln,p,⟨m,tg,hm,hf,hl⟩,le,none,false,out⟩)))]:=by
  unfold zC at hneed
  simp only at hneed
  refine spcG zi mixed Tryz.func46 (by kernel_rfl) { cfgQ with keep:=some [0]} [zW,zV,zZ,zY,yw,yu,yD,yC,xH,xG] (by kernel_rfl) ?_
  intro I X hI hX
  refine zh (.need (I.hid (α:=(Prop)) (zC (Go.Ab.Rq.mk ln p (Hd.mk m tg hm hf hl) le (Option.none) Bool.false out))) (.fin (.ret (.tup [])) [(.abs (.rq (Go.Ab.Rq.mk (Go.Ab.Ln.mk (Go.Ab.Ln.b ln) (Go.Ab.Ln.cr ln) (Go.Ab.Ln.code ln)) (0:Int) (Hd.mk ([]:Str) ([]:Str) (0:Int) ([]:List Fld) (0:Int)) le (Option.none) Bool.true (I.hid (α:=(List Go.Ab.Evt)) (HAppend.hAppend out ([(Go.Ab.Evt.mk (3:Int) (Hd.mk ([]:Str) ([]:Str) (0:Int) ([]:List Fld) (0:Int)) ([]:Str) (Go.Ab.Prt.mk ([]:Str) ([]:Str) ([]:Str) ([]:Str)) (0:Int))]:List Go.Ab.Evt))))))])) (by kernel_rfl) ?_
  simp only [zy]
  subst hI
  simp only [nrmA,nrmB,nrlB,reduceCtorEq,HO.abs.injEq,Gh.rq.injEq,Rq.mk.injEq]
  (repeat' (first|refine And.intro ?_ ?_|intro _))<;>first|omega|exact True.intro|exact False.elim ‹False›|skip
  all_goals first
    |omega
    |rfl
    |with_reducible assumption
    |(simp only [List.length_cons,List.length_nil];omega)
    |(unfold zC;simp only;omega)
    |(simp;done)
theorem zhZ (ln:Ln) (p:Int) (m tg:Str) (hm:Int) (hf:List Fld) (hl le:Int) (ch:Ch) (out:List Evt) (hneed:zC ⟨ln,p,⟨m,tg,hm,hf,hl⟩,le,some ch,true,out⟩):Spc Tryz.prog 46 [.v (.one (.ptr 0 0))] [.abs (.rq ⟨ln,p,⟨m,tg,hm,hf,hl⟩,le,some ch,true,out⟩)] (.ret (.tup [])) [.abs (.rq ((yU ⟨ln,p,⟨m,tg,hm,hf,hl⟩,le,some ch,true,out⟩)))]:=by
  unfold zC at hneed
  simp only at hneed
  refine spcG zi mixed Tryz.func46 (by kernel_rfl) { cfgQ with keep:=some [0]} [zW,zV,zZ,zY,yw,yu,yD,yC,xH,xG] (by kernel_rfl) ?_
  intro I X hI hX
  refine zh (.need (I.hid (α:=(Prop)) (zC (Go.Ab.Rq.mk ln p (Hd.mk m tg hm hf hl) le (Option.some ch) Bool.true out))) (.fin (.ret (.tup [])) [(.abs (.rq (Go.Ab.Rq.mk (Go.Ab.Ln.mk (Go.Ab.Ln.b ln) (Go.Ab.Ln.cr ln) (Go.Ab.Ln.code ln)) (0:Int) (Hd.mk ([]:Str) ([]:Str) (0:Int) ([]:List Fld) (0:Int)) le (Option.some (Go.Ab.Ch.mk (Go.Ab.Ln.mk (Go.Ab.Ln.b (Go.Ab.Ch.ln ch)) (Go.Ab.Ln.cr (Go.Ab.Ch.ln ch)) (Go.Ab.Ln.code (Go.Ab.Ch.ln ch))) (Go.Ab.Ch.pos ch) (Go.Ab.Ch.left ch) (Go.Ab.Ch.all ch) (Go.Ab.Ch.tails ch) (Go.Ab.Ch.code ch))) Bool.true (I.hid (α:=(List Go.Ab.Evt)) (HAppend.hAppend out ([(Go.Ab.Evt.mk (3:Int) (Hd.mk ([]:Str) ([]:Str) (0:Int) ([]:List Fld) (0:Int)) ([]:Str) (Go.Ab.Prt.mk ([]:Str) ([]:Str) ([]:Str) ([]:Str)) (0:Int))]:List Go.Ab.Evt))))))])) (by kernel_rfl) ?_
  simp only [zy]
  subst hI
  simp only [nrmA,nrmB,nrlB,reduceCtorEq,HO.abs.injEq,Gh.rq.injEq,Rq.mk.injEq]
  (repeat' (first|refine And.intro ?_ ?_|intro _))<;>first|omega|exact True.intro|exact False.elim ‹False›|skip
  all_goals first
    |omega
    |rfl
    |with_reducible assumption
    |(simp only [List.length_cons,List.length_nil];omega)
    |(unfold zC;simp only;omega)
    |(simp;done)
theorem zh0 (ln:Ln) (p:Int) (m tg:Str) (hm:Int) (hf:List Fld) (hl le:Int) (ch:Ch) (out:List Evt) (hneed:zC ⟨ln,p,⟨m,tg,hm,hf,hl⟩,le,some ch,false,out⟩):Spc Tryz.prog 46 [.v (.one (.ptr 0 0))] [.abs (.rq ⟨ln,p,⟨m,tg,hm,hf,hl⟩,le,some ch,false,out⟩)] (.ret (.tup [])) [.abs (.rq ((yU ⟨ln,p,⟨m,tg,hm,hf,hl⟩,le,some ch,false,out⟩)))]:=by
  unfold zC at hneed
  simp only at hneed
  refine spcG zi mixed Tryz.func46 (by kernel_rfl) { cfgQ with keep:=some [0]} [zW,zV,zZ,zY,yw,yu,yD,yC,xH,xG] (by kernel_rfl) ?_
  intro I X hI hX
  refine zh (.need (I.hid (α:=(Prop)) (zC (Go.Ab.Rq.mk ln p (Hd.mk m tg hm hf hl) le (Option.some ch) Bool.false out))) (.fin (.ret (.tup [])) [(.abs (.rq (Go.Ab.Rq.mk (Go.Ab.Ln.mk (Go.Ab.Ln.b ln) (Go.Ab.Ln.cr ln) (Go.Ab.Ln.code ln)) (0:Int) (Hd.mk ([]:Str) ([]:Str) (0:Int) ([]:List Fld) (0:Int)) le (Option.some (Go.Ab.Ch.mk (Go.Ab.Ln.mk (Go.Ab.Ln.b (Go.Ab.Ch.ln ch)) (Go.Ab.Ln.cr (Go.Ab.Ch.ln ch)) (Go.Ab.Ln.code (Go.Ab.Ch.ln ch))) (Go.Ab.Ch.pos ch) (Go.Ab.Ch.left ch) (Go.Ab.Ch.all ch) (Go.Ab.Ch.tails ch) (Go.Ab.Ch.code ch))) Bool.true (I.hid (α:=(List Go.Ab.Evt)) (HAppend.hAppend out ([(Go.Ab.Evt.mk (3:Int) (Hd.mk ([]:Str) ([]:Str) (0:Int) ([]:List Fld) (0:Int)) ([]:Str) (Go.Ab.Prt.mk ([]:Str) ([]:Str) ([]:Str) ([]:Str)) (0:Int))]:List Go.Ab.Evt))))))])) (by kernel_rfl) ?_
  simp only [zy]
  subst hI
  simp only [nrmA,nrmB,nrlB,reduceCtorEq,HO.abs.injEq,Gh.rq.injEq,Rq.mk.injEq]
  (repeat' (first|refine And.intro ?_ ?_|intro _))<;>first|omega|exact True.intro|exact False.elim ‹False›|skip
  all_goals first
    |omega
    |rfl
    |with_reducible assumption
    |(simp only [List.length_cons,List.length_nil];omega)
    |(unfold zC;simp only;omega)
    |(simp;done)
theorem zkx (q:Rq) (hneed:zC q):Spc Tryz.prog 46 [.v (.one (.ptr 0 0))] [.abs (.rq q)] (.ret (.tup [])) [.abs (.rq ((yU q)))]:=by
  obtain⟨ln,p,⟨m,tg,hm,hf,hl⟩,le,ck,own,out⟩:=q
  cases ck with
  | none=>cases own with
    |true=>exact zh1 ln p m tg hm hf hl le out hneed
    |false=>exact zh2 ln p m tg hm hf hl le out hneed
  | some ch=>cases own with
    |true=>exact zhZ ln p m tg hm hf hl le ch out hneed
    |false=>exact zh0 ln p m tg hm hf hl le ch out hneed
def Wx (I:Alg) (args:List D) (hp:List HO):Option CT:=match args,hp with
  |[.v (.one (.ptr 0 0))],[.abs (.rq q)]=>(fun(q:Rq)=>(some (.one ⟨I.hid (zC q),(.ret (.tup [])),[.abs (.rq (I.hid ((yU q))))]⟩):Option CT)) q
  |_,_=>none
theorem zcU:zD Tryz.prog 46 (Wx alg):=by
  intro args hp r h
  unfold Wx at h
  split at h
  · cases h;exact fun hn=>zkx _ hn
  · cases h
def qV:Know Tryz.prog:=⟨46,Wx,zcU⟩
def qU:Know Tryz.prog:=⟨46,fun I=>zH I (Wx I),zf zcU⟩
theorem zij (b:Str) (cr:Bool) (code:Int):Spc Tryz.prog 31 [.v (.one (.ptr 0 0))] [.pack [.obj 82 [(.row 1),(.p (.bool cr)),(.p (.int .i64 code))],.row .byte 5 b]] (.ret (.v (.one (.p (.bool ((lnB ⟨b,cr,code⟩))))))) [.pack [.obj 82 [(.row 1),(.p (.bool cr)),(.p (.int .i64 code))],.row .byte 5 b]]:=by
  refine spcG zi mixed Tryz.func31 (by kernel_rfl) { ziG with keep:=some [0,2]} [] (by kernel_rfl) ?_
  intro I X hI hX
  refine zh (let y0:HO:=.pack [(.obj 82 [(.row 1),(.p (.bool cr)),(.p (.int .i64 code))]),(.row .byte 5 b)];.br (I.ilt 0 (I.len (α:=UInt8) b)) (.fin (.ret (.v (.one (.p (.bool Bool.true))))) [y0]) (.fin (.ret (.v (.one (.p (.bool cr))))) [y0])) (by kernel_rfl) ?_
  simp only [zy]
  subst hI
  unfold lnB
  simp only [nrmA,nrmB,nrlB,reduceCtorEq,HO.pack.injEq,HO.obj.injEq]
  (repeat' (first|refine And.intro ?_ ?_|intro _))<;>first|omega|exact True.intro|exact False.elim ‹False›|skip
  all_goals first|omega|rfl|(simp_all;done)|trace_state
def Ze (I:Alg) (args:List D) (hp:List HO):Option CT:=match args,hp with
  |[.v (.one (.ptr 0 0))],[.pack [.obj 82 [(.row 1),(.p (.bool cr)),(.p (.int .i64 code))],.row .byte 5 b]]=>(fun(b:Str) (cr:Bool) (code:Int)=>(some (.one ⟨I.hid (True),(.ret (.v (.one (.p (.bool (I.hid ((lnB ⟨b,cr,code⟩)))))))),[.pack [.obj 82 [(.row 1),(.p (.bool cr)),(.p (.int .i64 code))],.row .byte 5 b]]⟩):Option CT)) b cr code
  |_,_=>none
theorem TF:zD Tryz.prog 31 (Ze alg):=by
  intro args hp r h
  unfold Ze at h
  split at h
  · cases h;exact fun hn=>zij _ _ _
  · cases h
def Zd:Know Tryz.prog:=⟨31,Ze,TF⟩
def Zc:Know Tryz.prog:=⟨31,fun I=>zH I (Ze I),zf TF⟩
theorem zfJ (ln:Ln) (p:Int) (m tg:Str) (hm:Int) (hf:List Fld) (hl le:Int) (out:List Evt):Spc Tryz.prog 13 [.v (.one (.ptr 0 0))] [.abs (.rq ⟨ln,p,⟨m,tg,hm,hf,hl⟩,le,none,true,out⟩)] (.ret (.v (.one (.p (.bool ((decide (Rq.pos ⟨ln,p,⟨m,tg,hm,hf,hl⟩,le,none,true,out⟩=4)))))))) [.abs (.rq ⟨ln,p,⟨m,tg,hm,hf,hl⟩,le,none,true,out⟩)]:=by
  refine spcG zi mixed Tryz.func13 (by kernel_rfl) { cfgQ with keep:=some [0,2]} [] (by kernel_rfl) ?_
  intro I X hI hX
  refine zh (.fin (.ret (.v (.one (.p (.bool (I.ieq p 4)))))) [(.abs (.rq (Go.Ab.Rq.mk (Go.Ab.Ln.mk (Go.Ab.Ln.b ln) (Go.Ab.Ln.cr ln) (Go.Ab.Ln.code ln)) p (Hd.mk m tg hm hf hl) le (Option.none) Bool.true out)))]) (by kernel_rfl) ?_
  simp only [zy]
  subst hI
  simp only [nrmA,nrmB,nrlB,reduceCtorEq,HO.abs.injEq,Gh.rq.injEq,Rq.mk.injEq]
  (repeat' (first|refine And.intro ?_ ?_|intro _))<;>first|omega|exact True.intro|exact False.elim ‹False›|skip
  all_goals first
    |omega
    |rfl
    |with_reducible assumption
    |(simp only [List.length_cons,List.length_nil];omega)
    |(simp;done)
theorem zfK (ln:Ln) (p:Int) (m tg:Str) (hm:Int) (hf:List Fld) (hl le:Int) (out:List Evt):Spc Tryz.prog 13 [.v (.one (.ptr 0 0))] [.abs (.rq ⟨ln,p,⟨m,tg,hm,hf,hl⟩,le,none,false,out⟩)] (.ret (.v (.one (.p (.bool ((decide (Rq.pos ⟨ln,p,⟨m,tg,hm,hf,hl⟩,le,none,false,out⟩=4)))))))) [.abs (.rq ⟨ln,p,⟨m,tg,hm,hf,hl⟩,le,none,false,out⟩)]:=by
  refine spcG zi mixed Tryz.func13 (by kernel_rfl) { cfgQ with keep:=some [0,2]} [] (by kernel_rfl) ?_
  intro I X hI hX
  refine zh (.fin (.ret (.v (.one (.p (.bool (I.ieq p 4)))))) [(.abs (.rq (Go.Ab.Rq.mk (Go.Ab.Ln.mk (Go.Ab.Ln.b ln) (Go.Ab.Ln.cr ln) (Go.Ab.Ln.code ln)) p (Hd.mk m tg hm hf hl) le (Option.none) Bool.false out)))]) (by kernel_rfl) ?_
  simp only [zy]
  subst hI
  simp only [nrmA,nrmB,nrlB,reduceCtorEq,HO.abs.injEq,Gh.rq.injEq,Rq.mk.injEq]
  (repeat' (first|refine And.intro ?_ ?_|intro _))<;>first|omega|exact True.intro|exact False.elim ‹False›|skip
  all_goals first
    |omega
    |rfl
    |with_reducible assumption
    |(simp only [List.length_cons,List.length_nil];omega)
    |(simp;done)
theorem zfH (ln:Ln) (p:Int) (m tg:Str) (hm:Int) (hf:List Fld) (hl le:Int) (ch:Ch) (out:List Evt):Spc Tryz.prog 13 [.v (.one (.ptr 0 0))] [.abs (.rq ⟨ln,p,⟨m,tg,hm,hf,hl⟩,le,some ch,true,out⟩)] (.ret (.v (.one (.p (.bool ((decide (Rq.pos ⟨ln,p,⟨m,tg,hm,hf,hl⟩,le,some ch,true,out⟩=4)))))))) [.abs (.rq ⟨ln,p,⟨m,tg,hm,hf,hl⟩,le,some ch,true,out⟩)]:=by
  refine spcG zi mixed Tryz.func13 (by kernel_rfl) { cfgQ with keep:=some [0,2]} [] (by kernel_rfl) ?_
  intro I X hI hX
  refine zh (.fin (.ret (.v (.one (.p (.bool (I.ieq p 4)))))) [(.abs (.rq (Go.Ab.Rq.mk (Go.Ab.Ln.mk (Go.Ab.Ln.b ln) (Go.Ab.Ln.cr ln) (Go.Ab.Ln.code ln)) p (Hd.mk m tg hm hf hl) le (Option.some (Go.Ab.Ch.mk (Go.Ab.Ln.mk (Go.Ab.Ln.b (Go.Ab.Ch.ln ch)) (Go.Ab.Ln.cr (Go.Ab.Ch.ln ch)) (Go.Ab.Ln.code (Go.Ab.Ch.ln ch))) (Go.Ab.Ch.pos ch) (Go.Ab.Ch.left ch) (Go.Ab.Ch.all ch) (Go.Ab.Ch.tails ch) (Go.Ab.Ch.code ch))) Bool.true out)))]) (by kernel_rfl) ?_
  simp only [zy]
  subst hI
  simp only [nrmA,nrmB,nrlB,reduceCtorEq,HO.abs.injEq,Gh.rq.injEq,Rq.mk.injEq]
  (repeat' (first|refine And.intro ?_ ?_|intro _))<;>first|omega|exact True.intro|exact False.elim ‹False›|skip
  all_goals first
    |omega
    |rfl
    |with_reducible assumption
    |(simp only [List.length_cons,List.length_nil];omega)
    |(simp;done)
theorem zfI (ln:Ln) (p:Int) (m tg:Str) (hm:Int) (hf:List Fld) (hl le:Int) (ch:Ch) (out:List Evt):Spc Tryz.prog 13 [.v (.one (.ptr 0 0))] [.abs (.rq ⟨ln,p,⟨m,tg,hm,hf,hl⟩,le,some ch,false,out⟩)] (.ret (.v (.one (.p (.bool ((decide (Rq.pos ⟨ln,p,⟨m,tg,hm,hf,hl⟩,le,some ch,false,out⟩=4)))))))) [.abs (.rq ⟨ln,p,⟨m,tg,hm,hf,hl⟩,le,some ch,false,out⟩)]:=by
  refine spcG zi mixed Tryz.func13 (by kernel_rfl) { cfgQ with keep:=some [0,2]} [] (by kernel_rfl) ?_
  intro I X hI hX
  refine zh (.fin (.ret (.v (.one (.p (.bool (I.ieq p 4)))))) [(.abs (.rq (Go.Ab.Rq.mk (Go.Ab.Ln.mk (Go.Ab.Ln.b ln) (Go.Ab.Ln.cr ln) (Go.Ab.Ln.code ln)) p (Hd.mk m tg hm hf hl) le (Option.some (Go.Ab.Ch.mk (Go.Ab.Ln.mk (Go.Ab.Ln.b (Go.Ab.Ch.ln ch)) (Go.Ab.Ln.cr (Go.Ab.Ch.ln ch)) (Go.Ab.Ln.code (Go.Ab.Ch.ln ch))) (Go.Ab.Ch.pos ch) (Go.Ab.Ch.left ch) (Go.Ab.Ch.all ch) (Go.Ab.Ch.tails ch) (Go.Ab.Ch.code ch))) Bool.false out)))]) (by kernel_rfl) ?_
  simp only [zy]
  subst hI
  simp only [nrmA,nrmB,nrlB,reduceCtorEq,HO.abs.injEq,Gh.rq.injEq,Rq.mk.injEq]
  (repeat' (first|refine And.intro ?_ ?_|intro _))<;>first|omega|exact True.intro|exact False.elim ‹False›|skip
  all_goals first
    |omega
    |rfl
    |with_reducible assumption
    |(simp only [List.length_cons,List.length_nil];omega)
    |(simp;done)
theorem zjv (q:Rq):Spc Tryz.prog 13 [.v (.one (.ptr 0 0))] [.abs (.rq q)] (.ret (.v (.one (.p (.bool ((decide (Rq.pos q=4)))))))) [.abs (.rq ((q)))]:=by
  obtain⟨ln,p,⟨m,tg,hm,hf,hl⟩,le,ck,own,out⟩:=q
  cases ck with
  | none=>cases own with
    |true=>exact zfJ ln p m tg hm hf hl le out
    |false=>exact zfK ln p m tg hm hf hl le out
  | some ch=>cases own with
    |true=>exact zfH ln p m tg hm hf hl le ch out
    |false=>exact zfI ln p m tg hm hf hl le ch out
def Yi (I:Alg) (args:List D) (hp:List HO):Option CT:=match args,hp with
  |[.v (.one (.ptr 0 0))],[.abs (.rq q)]=>(fun(q:Rq)=>(some (.one ⟨I.hid (True),(.ret (.v (.one (.p (.bool (I.hid ((decide (Rq.pos q=4))))))))),[.abs (.rq (I.hid ((q))))]⟩):Option CT)) q
  |_,_=>none
theorem zam:zD Tryz.prog 13 (Yi alg):=by
  intro args hp r h
  unfold Yi at h
  split at h
  · cases h;exact fun hn=>zjv _
  · cases h
def zal:Know Tryz.prog:=⟨13,Yi,zam⟩
def zak:Know Tryz.prog:=⟨13,fun I=>zH I (Yi I),zf zam⟩
theorem zfR (ln:Ln) (p:Int) (m tg:Str) (hm:Int) (hf:List Fld) (hl le:Int) (out:List Evt):Spc Tryz.prog 12 [.v (.one (.ptr 0 0))] [.abs (.rq ⟨ln,p,⟨m,tg,hm,hf,hl⟩,le,none,true,out⟩)] (.ret (.v (.one (.p (.bool ((xZ ⟨ln,p,⟨m,tg,hm,hf,hl⟩,le,none,true,out⟩))))))) [.abs (.rq ⟨ln,p,⟨m,tg,hm,hf,hl⟩,le,none,true,out⟩)]:=by
  refine spcG zi mixed Tryz.func12 (by kernel_rfl) { cfgQ with keep:=some [0,2]} [Zd,Zc] (by kernel_rfl) ?_
  intro I X hI hX
  refine zh (.br (I.bnot (I.ieq p 4)) (.br (I.bnot (I.ieq p 0)) (.fin (.ret (.v (.one (.p (.bool Bool.true))))) [(.abs (.rq (Go.Ab.Rq.mk (Go.Ab.Ln.mk (Go.Ab.Ln.b ln) (Go.Ab.Ln.cr ln) (Go.Ab.Ln.code ln)) p (Hd.mk m tg hm hf hl) le (Option.none) Bool.true out)))]) (.need (I.hid (α:=(Prop)) True) (.fin (.ret (.v (.one (.p (.bool (I.hid (α:=Bool) (lnB (Go.Ab.Ln.mk (Go.Ab.Ln.b ln) (Go.Ab.Ln.cr ln) (Go.Ab.Ln.code ln))))))))) [(.abs (.rq (Go.Ab.Rq.mk (Go.Ab.Ln.mk (Go.Ab.Ln.b ln) (Go.Ab.Ln.cr ln) (Go.Ab.Ln.code ln)) p (Hd.mk m tg hm hf hl) le (Option.none) Bool.true out)))]))) (.fin (.ret (.v (.one (.p (.bool Bool.false))))) [(.abs (.rq (Go.Ab.Rq.mk (Go.Ab.Ln.mk (Go.Ab.Ln.b ln) (Go.Ab.Ln.cr ln) (Go.Ab.Ln.code ln)) p (Hd.mk m tg hm hf hl) le (Option.none) Bool.true out)))])) (by kernel_rfl) ?_
  simp only [zy]
  subst hI
  simp only [nrmA,nrmB,nrlB,reduceCtorEq,HO.abs.injEq,Gh.rq.injEq,Rq.mk.injEq]
  (repeat' (first|refine And.intro ?_ ?_|intro _))<;>first|omega|exact True.intro|exact False.elim ‹False›|skip
  all_goals first
    |omega
    |rfl
    |with_reducible assumption
    |(simp only [List.length_cons,List.length_nil];omega)
    |(simp_all [xZ];done)
    |(simp;done)
theorem zfS (ln:Ln) (p:Int) (m tg:Str) (hm:Int) (hf:List Fld) (hl le:Int) (out:List Evt):Spc Tryz.prog 12 [.v (.one (.ptr 0 0))] [.abs (.rq ⟨ln,p,⟨m,tg,hm,hf,hl⟩,le,none,false,out⟩)] (.ret (.v (.one (.p (.bool ((xZ ⟨ln,p,⟨m,tg,hm,hf,hl⟩,le,none,false,out⟩))))))) [.abs (.rq ⟨ln,p,⟨m,tg,hm,hf,hl⟩,le,none,false,out⟩)]:=by
  refine spcG zi mixed Tryz.func12 (by kernel_rfl) { cfgQ with keep:=some [0,2]} [Zd,Zc] (by kernel_rfl) ?_
  intro I X hI hX
  refine zh (.br (I.bnot (I.ieq p 4)) (.br (I.bnot (I.ieq p 0)) (.fin (.ret (.v (.one (.p (.bool Bool.true))))) [(.abs (.rq (Go.Ab.Rq.mk (Go.Ab.Ln.mk (Go.Ab.Ln.b ln) (Go.Ab.Ln.cr ln) (Go.Ab.Ln.code ln)) p (Hd.mk m tg hm hf hl) le (Option.none) Bool.false out)))]) (.need (I.hid (α:=(Prop)) True) (.fin (.ret (.v (.one (.p (.bool (I.hid (α:=Bool) (lnB (Go.Ab.Ln.mk (Go.Ab.Ln.b ln) (Go.Ab.Ln.cr ln) (Go.Ab.Ln.code ln))))))))) [(.abs (.rq (Go.Ab.Rq.mk (Go.Ab.Ln.mk (Go.Ab.Ln.b ln) (Go.Ab.Ln.cr ln) (Go.Ab.Ln.code ln)) p (Hd.mk m tg hm hf hl) le (Option.none) Bool.false out)))]))) (.fin (.ret (.v (.one (.p (.bool Bool.false))))) [(.abs (.rq (Go.Ab.Rq.mk (Go.Ab.Ln.mk (Go.Ab.Ln.b ln) (Go.Ab.Ln.cr ln) (Go.Ab.Ln.code ln)) p (Hd.mk m tg hm hf hl) le (Option.none) Bool.false out)))])) (by kernel_rfl) ?_
  simp only [zy]
  subst hI
  simp only [nrmA,nrmB,nrlB,reduceCtorEq,HO.abs.injEq,Gh.rq.injEq,Rq.mk.injEq]
  (repeat' (first|refine And.intro ?_ ?_|intro _))<;>first|omega|exact True.intro|exact False.elim ‹False›|skip
  all_goals first
    |omega
    |rfl
    |with_reducible assumption
    |(simp only [List.length_cons,List.length_nil];omega)
    |(simp_all [xZ];done)
    |(simp;done)
theorem zfP (ln:Ln) (p:Int) (m tg:Str) (hm:Int) (hf:List Fld) (hl le:Int) (ch:Ch) (out:List Evt):Spc Tryz.prog 12 [.v (.one (.ptr 0 0))] [.abs (.rq ⟨ln,p,⟨m,tg,hm,hf,hl⟩,le,some ch,true,out⟩)] (.ret (.v (.one (.p (.bool ((xZ ⟨ln,p,⟨m,tg,hm,hf,hl⟩,le,some ch,true,out⟩))))))) [.abs (.rq ⟨ln,p,⟨m,tg,hm,hf,hl⟩,le,some ch,true,out⟩)]:=by
  refine spcG zi mixed Tryz.func12 (by kernel_rfl) { cfgQ with keep:=some [0,2]} [Zd,Zc] (by kernel_rfl) ?_
  intro I X hI hX
  refine zh (.br (I.bnot (I.ieq p 4)) (.br (I.bnot (I.ieq p 0)) (.fin (.ret (.v (.one (.p (.bool Bool.true))))) [(.abs (.rq (Go.Ab.Rq.mk (Go.Ab.Ln.mk (Go.Ab.Ln.b ln) (Go.Ab.Ln.cr ln) (Go.Ab.Ln.code ln)) p (Hd.mk m tg hm hf hl) le (Option.some (Go.Ab.Ch.mk (Go.Ab.Ln.mk (Go.Ab.Ln.b (Go.Ab.Ch.ln ch)) (Go.Ab.Ln.cr (Go.Ab.Ch.ln ch)) (Go.Ab.Ln.code (Go.Ab.Ch.ln ch))) (Go.Ab.Ch.pos ch) (Go.Ab.Ch.left ch) (Go.Ab.Ch.all ch) (Go.Ab.Ch.tails ch) (Go.Ab.Ch.code ch))) Bool.true out)))]) (.need (I.hid (α:=(Prop)) True) (.fin (.ret (.v (.one (.p (.bool (I.hid (α:=Bool) (lnB (Go.Ab.Ln.mk (Go.Ab.Ln.b ln) (Go.Ab.Ln.cr ln) (Go.Ab.Ln.code ln))))))))) [(.abs (.rq (Go.Ab.Rq.mk (Go.Ab.Ln.mk (Go.Ab.Ln.b ln) (Go.Ab.Ln.cr ln) (Go.Ab.Ln.code ln)) p (Hd.mk m tg hm hf hl) le (Option.some (Go.Ab.Ch.mk (Go.Ab.Ln.mk (Go.Ab.Ln.b (Go.Ab.Ch.ln ch)) (Go.Ab.Ln.cr (Go.Ab.Ch.ln ch)) (Go.Ab.Ln.code (Go.Ab.Ch.ln ch))) (Go.Ab.Ch.pos ch) (Go.Ab.Ch.left ch) (Go.Ab.Ch.all ch) (Go.Ab.Ch.tails ch) (Go.Ab.Ch.code ch))) Bool.true out)))]))) (.fin (.ret (.v (.one (.p (.bool Bool.false))))) [(.abs (.rq (Go.Ab.Rq.mk (Go.Ab.Ln.mk (Go.Ab.Ln.b ln) (Go.Ab.Ln.cr ln) (Go.Ab.Ln.code ln)) p (Hd.mk m tg hm hf hl) le (Option.some (Go.Ab.Ch.mk (Go.Ab.Ln.mk (Go.Ab.Ln.b (Go.Ab.Ch.ln ch)) (Go.Ab.Ln.cr (Go.Ab.Ch.ln ch)) (Go.Ab.Ln.code (Go.Ab.Ch.ln ch))) (Go.Ab.Ch.pos ch) (Go.Ab.Ch.left ch) (Go.Ab.Ch.all ch) (Go.Ab.Ch.tails ch) (Go.Ab.Ch.code ch))) Bool.true out)))])) (by kernel_rfl) ?_
  simp only [zy]
  subst hI
  simp only [nrmA,nrmB,nrlB,reduceCtorEq,HO.abs.injEq,Gh.rq.injEq,Rq.mk.injEq]
  (repeat' (first|refine And.intro ?_ ?_|intro _))<;>first|omega|exact True.intro|exact False.elim ‹False›|skip
  all_goals first
    |omega
    |rfl
    |with_reducible assumption
    |(simp only [List.length_cons,List.length_nil];omega)
    |(simp_all [xZ];done)
    |(simp;done)
theorem zfQ (ln:Ln) (p:Int) (m tg:Str) (hm:Int) (hf:List Fld) (hl le:Int) (ch:Ch) (out:List Evt):Spc Tryz.prog 12 [.v (.one (.ptr 0 0))] [.abs (.rq ⟨ln,p,⟨m,tg,hm,hf,hl⟩,le,some ch,false,out⟩)] (.ret (.v (.one (.p (.bool ((xZ ⟨ln,p,⟨m,tg,hm,hf,hl⟩,le,some ch,false,out⟩))))))) [.abs (.rq ⟨ln,p,⟨m,tg,hm,hf,hl⟩,le,some ch,false,out⟩)]:=by
  refine spcG zi mixed Tryz.func12 (by kernel_rfl) { cfgQ with keep:=some [0,2]} [Zd,Zc] (by kernel_rfl) ?_
  intro I X hI hX
  refine zh (.br (I.bnot (I.ieq p 4)) (.br (I.bnot (I.ieq p 0)) (.fin (.ret (.v (.one (.p (.bool Bool.true))))) [(.abs (.rq (Go.Ab.Rq.mk (Go.Ab.Ln.mk (Go.Ab.Ln.b ln) (Go.Ab.Ln.cr ln) (Go.Ab.Ln.code ln)) p (Hd.mk m tg hm hf hl) le (Option.some (Go.Ab.Ch.mk (Go.Ab.Ln.mk (Go.Ab.Ln.b (Go.Ab.Ch.ln ch)) (Go.Ab.Ln.cr (Go.Ab.Ch.ln ch)) (Go.Ab.Ln.code (Go.Ab.Ch.ln ch))) (Go.Ab.Ch.pos ch) (Go.Ab.Ch.left ch) (Go.Ab.Ch.all ch) (Go.Ab.Ch.tails ch) (Go.Ab.Ch.code ch))) Bool.false out)))]) (.need (I.hid (α:=(Prop)) True) (.fin (.ret (.v (.one (.p (.bool (I.hid (α:=Bool) (lnB (Go.Ab.Ln.mk (Go.Ab.Ln.b ln) (Go.Ab.Ln.cr ln) (Go.Ab.Ln.code ln))))))))) [(.abs (.rq (Go.Ab.Rq.mk (Go.Ab.Ln.mk (Go.Ab.Ln.b ln) (Go.Ab.Ln.cr ln) (Go.Ab.Ln.code ln)) p (Hd.mk m tg hm hf hl) le (Option.some (Go.Ab.Ch.mk (Go.Ab.Ln.mk (Go.Ab.Ln.b (Go.Ab.Ch.ln ch)) (Go.Ab.Ln.cr (Go.Ab.Ch.ln ch)) (Go.Ab.Ln.code (Go.Ab.Ch.ln ch))) (Go.Ab.Ch.pos ch) (Go.Ab.Ch.left ch) (Go.Ab.Ch.all ch) (Go.Ab.Ch.tails ch) (Go.Ab.Ch.code ch))) Bool.false out)))]))) (.fin (.ret (.v (.one (.p (.bool Bool.false))))) [(.abs (.rq (Go.Ab.Rq.mk (Go.Ab.Ln.mk (Go.Ab.Ln.b ln) (Go.Ab.Ln.cr ln) (Go.Ab.Ln.code ln)) p (Hd.mk m tg hm hf hl) le (Option.some (Go.Ab.Ch.mk (Go.Ab.Ln.mk (Go.Ab.Ln.b (Go.Ab.Ch.ln ch)) (Go.Ab.Ln.cr (Go.Ab.Ch.ln ch)) (Go.Ab.Ln.code (Go.Ab.Ch.ln ch))) (Go.Ab.Ch.pos ch) (Go.Ab.Ch.left ch) (Go.Ab.Ch.all ch) (Go.Ab.Ch.tails ch) (Go.Ab.Ch.code ch))) Bool.false out)))])) (by kernel_rfl) ?_
  simp only [zy]
  subst hI
  simp only [nrmA,nrmB,nrlB,reduceCtorEq,HO.abs.injEq,Gh.rq.injEq,Rq.mk.injEq]
  (repeat' (first|refine And.intro ?_ ?_|intro _))<;>first|omega|exact True.intro|exact False.elim ‹False›|skip
  all_goals first
    |omega
    |rfl
    |with_reducible assumption
    |(simp only [List.length_cons,List.length_nil];omega)
    |(simp_all [xZ];done)
    |(simp;done)
theorem zjx (q:Rq):Spc Tryz.prog 12 [.v (.one (.ptr 0 0))] [.abs (.rq q)] (.ret (.v (.one (.p (.bool ((xZ q))))))) [.abs (.rq ((q)))]:=by
  obtain⟨ln,p,⟨m,tg,hm,hf,hl⟩,le,ck,own,out⟩:=q
  cases ck with
  | none=>cases own with
    |true=>exact zfR ln p m tg hm hf hl le out
    |false=>exact zfS ln p m tg hm hf hl le out
  | some ch=>cases own with
    |true=>exact zfP ln p m tg hm hf hl le ch out
    |false=>exact zfQ ln p m tg hm hf hl le ch out
def Yk (I:Alg) (args:List D) (hp:List HO):Option CT:=match args,hp with
  |[.v (.one (.ptr 0 0))],[.abs (.rq q)]=>(fun(q:Rq)=>(some (.one ⟨I.hid (True),(.ret (.v (.one (.p (.bool (I.hid ((xZ q)))))))),[.abs (.rq (I.hid ((q))))]⟩):Option CT)) q
  |_,_=>none
theorem zao:zD Tryz.prog 12 (Yk alg):=by
  intro args hp r h
  unfold Yk at h
  split at h
  · cases h;exact fun hn=>zjx _
  · cases h
def Vt:Know Tryz.prog:=⟨12,Yk,zao⟩
def Vs:Know Tryz.prog:=⟨12,fun I=>zH I (Yk I),zf zao⟩
end Go.Proofs.YtmibhbdfigpkmaaGreatDoor
namespace Go.Ab
open Go Go.Sep
variable [Facts]
theorem Spc.zkH {Pr:Program} {f:Nat} {args:List D} {hp:List HO} {u:U} {E:Nat} {l:List u.den} (hl:l.length≤maxLen) (hf: ∃ fn,Pr.funcs[f]? =some fn∧(fn.name == "runtime.NumGoroutine")=false∧fn.body.isNone=false)
    (h: ∀ (S:Frz) (bs:List Value) (w:World) (vs:List Value),Facts.p w→MDs S bs args vs→∃ cs:Array Value,cs.size=l.length * u.size∧(∀ (i:Nat) (x:u.den) (j:Nat) (p:P) (v:Value),l[i]? =some x→(enc alg u x)[j]? =some p→cs.toList[i * u.size+j]? =some v→MP S p v)∧Calls Pr f vs.toArray w fun e w'=>e=.returned (.slice (some ⟨w.heap.size,0,none⟩) l.length l.length)∧w'=w.alloc (.cells cs E)):Spc Pr f args hp (.ret (.v (.one (.row hp.length)))) (hp++[.row u E l]):=by
  refine⟨hf,fun S K fr w vs hH hM hA=> ?_⟩
  obtain⟨cs,hcs,hx,hc⟩:=h S _ w vs (At.frz hA).facts hM
  refine hc.mono fun e w' he=> ?_
  obtain⟨rfl,rfl⟩:=he
  have he:Ext (K.map CO.base) ((K++[CO.row E u.size (some ⟨w.heap.size,0,none⟩) l.length l.length cs.toList]).map CO.base):=by rw [List.map_append];exact Ext.append _ _
  refine⟨S,K++[CO.row E u.size (some ⟨w.heap.size,0,none⟩) l.length l.length cs.toList],Frz.le.refl S,he,(hH.mono (Frz.le.refl S) he).push (.row (by rw [Array.length_toList];exact hcs) hx),?_,?_⟩
  · have h1:=hA.WZ E u.size l.length cs (0,0) hcs hl (wP _)
    exact At.more h1
  · refine⟨?_,some ⟨w.heap.size,0,none⟩,l.length,l.length,rfl⟩
    rw [hH.1];exact yQ _ _
end Go.Ab
namespace Go.Proofs.YtmibhbdfigpkmaaGreatDoor
open Go Go.Sep Go.Ab
set_option maxRecDepth 100000
theorem index_one: ∀ (s:Str) (c:UInt8),c ∉ s→Lib.index s [c]= -1
  |[],c,_=>rfl
  | b::l,c,h=>by
    have h1: ¬ b=c:=fun e=>h (by rw [e];exact List.mem_cons_self)
    have h2:c ∉ l:=fun e=>h (List.mem_cons_of_mem _ e)
    have h0:(c == b)=false:=by simpa using fun e:c=b=>h1 e.symm
    have h3:([c]:Str).isPrefixOf (b::l)=false:=by simp [List.isPrefixOf,h0]
    unfold Lib.index
    rw [h3,index_one l c h2];rfl
theorem zdx: ∀ (p r:Str) (c:UInt8),c ∉ p→Lib.index (p++c::r) [c]=p.length
  |[],r,c,_=>by simp [Lib.index,List.isPrefixOf]
  | b::l,r,c,h=>by
    have h1: ¬ b=c:=fun e=>h (by rw [e];exact List.mem_cons_self)
    have h2:c ∉ l:=fun e=>h (List.mem_cons_of_mem _ e)
    have h0:(c == b)=false:=by simpa using fun e:c=b=>h1 e.symm
    have h3:([c]:Str).isPrefixOf (b::(l++c::r))=false:=by simp [List.isPrefixOf,h0]
    rw [List.cons_append]
    unfold Lib.index
    rw [h3,zdx l r c h2]
    have: ¬ ((l.length:Int) == -1)=true:=fun e=>by have:=beq_iff_eq.1 e;omega
    rw [if_neg (by simp),if_neg this]
    simp
theorem Vh: ∀ (s:Str),(32:UInt8) ∉ s→zK s=[s]
  |[],_=>rfl
  | b::l,h=>by
    have h1: ¬ b=32:=fun e=>h (by rw [e];exact List.mem_cons_self)
    have h2:(32:UInt8) ∉ l:=fun e=>h (List.mem_cons_of_mem _ e)
    rw [zK,if_neg h1,Vh l h2]
theorem UQ: ∀ (p r:Str),(32:UInt8) ∉ p→zK (p++32::r)=p::zK r
  |[],r,_=>by simp [zK]
  | b::l,r,h=>by
    have h1: ¬ b=32:=fun e=>h (by rw [e];exact List.mem_cons_self)
    have h2:(32:UInt8) ∉ l:=fun e=>h (List.mem_cons_of_mem _ e)
    rw [List.cons_append,zK,if_neg h1,UQ l r h2]
theorem zi6: ∀ (s:Str) (c:UInt8),c ∈ s→∃ p r,s=p++c::r∧c ∉ p
  | b ::l,c,h=>by
    by_cases e:b=c
    · exact⟨[],l,by rw [e];rfl,by simp⟩
    · have h2:c ∈ l:=by
        rcases List.mem_cons.1 h with h|h
        · exact absurd h.symm e
        · exact h
      obtain⟨p,r,rfl,h3⟩:=zi6 l c h2
      refine⟨b::p,r,rfl,fun h4=> ?_⟩
      rcases List.mem_cons.1 h4 with h4|h4
      · exact e h4.symm
      · exact h3 h4
theorem QO: ∀ (n:Nat) (s:Str),s.length≤n→∀ k,s.count 32≤k→Lib.splitK [32] 0 k s=zK s
  | 0,s,hs,k,_=>by
    have:s=[]:=List.length_eq_zero_iff.1 (by omega)
    subst this
    cases k<;>rfl
  | n + 1,s,hs,k,hk=>by
    by_cases hm:(32:UInt8) ∈ s
    · obtain⟨p,r,rfl,hp⟩:=zi6 s 32 hm
      have hc:(p++32::r).count 32=r.count 32+1:=by
        rw [List.count_append,List.count_eq_zero.2 hp,List.count_cons_self];omega
      rw [hc] at hk
      cases k with
      |zero=>omega
      | succ k=>
        rw [UQ p r hp]
        unfold Lib.splitK
        rw [zdx p r 32 hp]
        have: ¬ ((p.length:Int) == -1)=true:=fun e=>by have:=beq_iff_eq.1 e;omega
        rw [if_neg this]
        simp only [Int.toNat_natCast,Nat.add_zero,List.length_cons,List.length_nil,Nat.zero_add]
        rw [List.take_left,show p.length+1=(p++[(32:UInt8)]).length by simp,show p++32::r=(p++[32])++r by simp,List.drop_left]
        congr 1
        refine QO n r ?_ k (by omega)
        simp only [List.length_append,List.length_cons] at hs
        omega
    · rw [Vh s hm]
      cases k with
      |zero=>rfl
      | succ k=>
        unfold Lib.splitK
        rw [index_one s 32 hm];rfl
theorem count_one (s:Str):Lib.count s [32]=s.count 32:=Lib.count_one 32 s
theorem Vj: ∀ (s:Str),(zK s).length=s.count 32+1
  |[]=>rfl
  | c ::r=>by
    have ih:=Vj r
    rw [zK]
    split
    · rename_i h;subst h;rw [List.length_cons,ih,List.count_cons_self]
    · rename_i h
      rw [List.count_cons_of_ne (by simpa using h)]
      cases hq:zK r with
      |nil=>exact absurd hq (qH r)
      |cons w ws=>rw [hq] at ih;simpa using ih
theorem zfc {S:Frz} {l:List Str} (hl: ∀ x ∈ l,x.length≤maxLen) {vs:List Value} (hv:vs=l.map fun x=>Value.string (Sep.S x)): ∀ (i:Nat) (x:Str) (j:Nat) (p:P) (v:Value),l[i]? =some x→(enc alg .str x)[j]? =some p→vs[i * U.str.size+j]? =some v→MP S p v:=by
  intro i x j p v hi hj hv2
  cases j with
  | zero=>
    simp only [enc,List.getElem?_cons_zero,Option.some.injEq] at hj
    subst hj
    rw [hv,show i * U.str.size+0=i by simp [U.size],List.getElem?_map,hi] at hv2
    cases hv2
    exact .str _ (hl x (List.mem_of_getElem? hi))
  |succ j=>simp [enc] at hj
theorem wU: ∀ (s:Str),∀ x ∈ zK s,x.length≤s.length
  |[],x,h=>by simp [zK] at h;subst h;simp
  | c ::r,x,h=>by
    have ih:=wU r
    rw [zK] at h
    split at h
    · rcases List.mem_cons.1 h with rfl|h
      · simp
      · have:=ih x h;simp;omega
    · cases hq:zK r with
      |nil=>exact absurd hq (qH r)
      | cons w ws=>
        rw [hq] at h ih
        rcases List.mem_cons.1 h with rfl|h
        · have:=ih w List.mem_cons_self;simp;omega
        · have:=ih x (List.mem_cons_of_mem _ h);simp;omega
theorem zkm (s:Str) (hneed:s.length≤1000000):Spc Tryz.prog 86 [.v (.one (.p (.str s))),.v (.one (.p (.str ([32]))))] [] (.ret (.v (.one (.row 0)))) [.row .str 9 ((zK s))]:=by
  have hlen:=Vj s
  have hcl:s.count 32≤s.length:=List.count_le_length
  refine Spc.zkH (hp:=[]) (u:=.str) (by rw [hlen];unfold maxLen;omega) ⟨_,Tryz.func86,by kernel_rfl,by kernel_rfl⟩ fun S bs w vs hW hM=> ?_
  obtain⟨v,r,rfl⟩: ∃ v r,vs=v::r:=by cases vs with|nil=>exact hM.elim|cons v r=>exact⟨v,r,rfl⟩
  obtain⟨h1,hM⟩:=hM
  obtain⟨v2,r2,rfl⟩: ∃ v r2,r=v::r2:=by cases r with|nil=>exact hM.elim|cons v r=>exact⟨v,r,rfl⟩
  obtain⟨h2,hM⟩:=hM
  obtain rfl:r2=[]:=by cases r2 with|nil=>rfl|cons v r=>exact hM.elim
  obtain⟨mx,hmx⟩:=hW.2
  cases h1 with
  | str _ hl1=>
    cases h2 with
    | str _ hl2=>
      have hc:=Tryz.strings_Split (Sep.S s) (Sep.S [32]) mx w (by show s.length<_;omega) hmx (by decide)
      have hk:Lib.countB (Sep.S s) (Sep.S [32])=s.count 32:=count_one s
      have hd:(Lib.splitB (Sep.S [32]) 0 (Lib.countB (Sep.S s) (Sep.S [32])) (Sep.S s)).map (fun b=>b.data.toList)=zK s:=by
        rw [Lib.splitB_data,hk]
        exact QO s.length s (Nat.le_refl _) _ (Nat.le_refl _)
      have hv:(Lib.splitB (Sep.S [32]) 0 (Lib.countB (Sep.S s) (Sep.S [32])) (Sep.S s)).map Value.string=(zK s).map fun x=>Value.string (Sep.S x):=by
        rw [← hd,List.map_map]
        exact List.map_congr_left fun b _=>by simp [Sep.S]
      refine⟨((Lib.splitB (Sep.S [32]) 0 (Lib.countB (Sep.S s) (Sep.S [32])) (Sep.S s)).map Value.string).toArray,?_,?_,hc.mono fun e w' h=> ?_⟩
      · rw [hv];simp [U.size]
      · exact zfc (fun x hx=>by have:=wU s x hx;unfold maxLen;omega) (by rw [hv])
      · obtain⟨he,hw⟩:=h
        rw [hk] at he
        rw [hlen]
        exact⟨he,hw⟩
def X9 (I:Alg) (args:List D) (hp:List HO):Option CT:=match args,hp with
  |[.v (.one (.p (.str s))),.v (.one (.p (.str ([32]))))],[]=>(fun(s:Str)=>(some (.one ⟨I.hid (s.length≤1000000),(.ret (.v (.one (.row 0)))),[.row .str 9 (I.hid ((zK s)))]⟩):Option CT)) s
  |_,_=>none
theorem zcz:zD Tryz.prog 86 (X9 alg):=by
  intro args hp r h
  unfold X9 at h
  split at h
  · cases h;exact fun hn=>zkm _ hn
  · cases h
def zcy:Know Tryz.prog:=⟨86,X9,zcz⟩
def zcx:Know Tryz.prog:=⟨86,fun I=>zH I (X9 I),zf zcz⟩
end Go.Proofs.YtmibhbdfigpkmaaGreatDoor
namespace Go.Proofs.YtmibhbdfigpkmaaGreatDoor
open Go Go.Sep Go.Ab
set_option maxRecDepth 100000
theorem zeH (s p:Str):Spc Tryz.prog 33 [.v (.one (.p (.str s))),.v (.one (.p (.str p)))] [] (.ret (.v (.one (.p (.bool (Lib.hasPrefix s p)))))) []:=by
  refine Spc.of_below ⟨_,Tryz.func33,by kernel_rfl,by kernel_rfl⟩ fun S bs w vs _ hM=> ?_
  obtain⟨v,r,rfl⟩: ∃ v r,vs=v::r:=by cases vs with|nil=>exact hM.elim|cons v r=>exact⟨v,r,rfl⟩
  obtain⟨h1,hM⟩:=hM
  obtain⟨v2,r2,rfl⟩: ∃ v r2,r=v::r2:=by cases r with|nil=>exact hM.elim|cons v r=>exact⟨v,r,rfl⟩
  obtain⟨h2,hM⟩:=hM
  obtain rfl:r2=[]:=by cases r2 with|nil=>rfl|cons v r=>exact hM.elim
  cases h1 with
  | str _ hl1=>
    cases h2 with
    | str _ hl2=>
      refine⟨.bool (Lib.hasPrefix s p),.bool _,(Tryz.strings_HasPrefix (Sep.S s) (Sep.S p) w).mono fun e w' h=> ?_⟩
      obtain⟨he,rfl⟩:=h
      exact⟨he,Go.RowKit.Below.refl _ _⟩
def uw (I:Alg) (args:List D) (hp:List HO):Option CT:=match args,hp with
  |[.v (.one (.p (.str s))),.v (.one (.p (.str p)))],[]=>(fun(s p:Str)=>(some (.one ⟨I.hid (True),(.ret (.v (.one (.p (.bool (I.hid (Lib.hasPrefix s p))))))),[]⟩):Option CT)) s p
  |_,_=>none
theorem XJ:zD Tryz.prog 33 (uw alg):=by
  intro args hp r h
  unfold uw at h
  split at h
  · cases h;exact fun hn=>zeH _ _
  · cases h
def uq:Know Tryz.prog:=⟨33,uw,XJ⟩
def uo:Know Tryz.prog:=⟨33,fun I=>zH I (uw I),zf XJ⟩
theorem zeR (s:Str) (c:UInt8):Spc Tryz.prog 87 [.v (.one (.p (.str s))),.v (.one (.p (.str ([c]))))] [] (.ret (.v (.one (.p (.bool (decide (0≤Lib.indexByte s c))))))) []:=by
  refine Spc.of_below ⟨_,Tryz.func87,by kernel_rfl,by kernel_rfl⟩ fun S bs w vs _ hM=> ?_
  obtain⟨v,r,rfl⟩: ∃ v r,vs=v::r:=by cases vs with|nil=>exact hM.elim|cons v r=>exact⟨v,r,rfl⟩
  obtain⟨h1,hM⟩:=hM
  obtain⟨v2,r2,rfl⟩: ∃ v r2,r=v::r2:=by cases r with|nil=>exact hM.elim|cons v r=>exact⟨v,r,rfl⟩
  obtain⟨h2,hM⟩:=hM
  obtain rfl:r2=[]:=by cases r2 with|nil=>rfl|cons v r=>exact hM.elim
  cases h1 with
  | str _ hl1=>
    cases h2 with
    | str _ hl2=>
      refine⟨.bool (decide (0≤Lib.indexByte s c)),.bool _,(Tryz.strings_Contains_one (Sep.S s) c w).mono fun e w' h=> ?_⟩
      obtain⟨he,rfl⟩:=h
      exact⟨he,Go.RowKit.Below.refl _ _⟩
def uF (I:Alg) (args:List D) (hp:List HO):Option CT:=match args,hp with
  |[.v (.one (.p (.str s))),.v (.one (.p (.str ([c]))))],[]=>(fun(s:Str) (c:UInt8)=>(some (.one ⟨I.hid (True),(.ret (.v (.one (.p (.bool (I.hid (decide (0≤Lib.indexByte s c)))))))),[]⟩):Option CT)) s c
  |_,_=>none
theorem X0:zD Tryz.prog 87 (uF alg):=by
  intro args hp r h
  unfold uF at h
  split at h
  · cases h;exact fun hn=>zeR _ _
  · cases h
def XZ:Know Tryz.prog:=⟨87,uF,X0⟩
def XY:Know Tryz.prog:=⟨87,fun I=>zH I (uF I),zf X0⟩
end Go.Proofs.YtmibhbdfigpkmaaGreatDoor
namespace Go.Proofs.YtmibhbdfigpkmaaGreatDoor
open Go Go.Sep Go.Ab
set_option maxRecDepth 100000
theorem zfb (s:Str):decide (0≤Lib.indexByte s 9)=s.contains 9:=by
  have h: ∀ s:Str,(0≤Lib.indexByte s 9)↔s.contains 9=true:=by
    intro s
    induction s with
    |nil=>simp [Lib.indexByte]
    | cons b l ih=>
      have hb:=yN l 9
      unfold Lib.indexByte
      by_cases e:b=9
      · subst e;simp
      · have e2:(b == 9)=false:=by simpa using e
        have e3:((9:UInt8) == b)=false:=by simpa using fun h:9=b=>e h.symm
        rw [e2,if_neg (by simp),List.contains_cons,e3,Bool.false_or,← ih]
        split
        · rename_i h;have:=beq_iff_eq.1 h;omega
        · rename_i h;have: ¬ Lib.indexByte l 9= -1:=fun e=>h (by rw [e];rfl);omega
  rw [Bool.eq_iff_iff,decide_eq_true_eq];exact h s
theorem zfa (s:Str):(0≤Lib.indexByte s 9)↔s.contains 9=true:=by rw [← zfb,decide_eq_true_iff]
theorem zc4 (b:Str):Lib.hasPrefix b [47]=decide (b.head?=some 47):=by
  cases b with
  |nil=>rfl
  | cons c r=>
    unfold Lib.hasPrefix
    by_cases h:c=47
    · subst h;simp [List.isPrefixOf]
    · simp [List.isPrefixOf,h];exact fun e=>h e.symm
def xW (q:Rq) (s:Str):Rq:=
  if(begM s).1=0 then { q with h:=(begM s).2,pos:=1} else if(begM s).1=11 then { q with h:=(begM s).2} else q
def xk (q:Rq):Prop:=q.own=true
theorem zh8 (ln:Ln) (p:Int) (m tg:Str) (hm:Int) (hf:List Fld) (hl le:Int) (out:List Evt) (s:Str) (hneed:xk ⟨ln,p,⟨m,tg,hm,hf,hl⟩,le,none,true,out⟩∧s.length≤1000000):Spc Tryz.prog 70 [.v (.one (.ptr 0 0)),.v (.one (.p (.str s)))] [.abs (.rq ⟨ln,p,⟨m,tg,hm,hf,hl⟩,le,none,true,out⟩)] (.ret (.v (.one (.p (.int .i64 ((begM s).1)))))) [.abs (.rq ((xW ⟨ln,p,⟨m,tg,hm,hf,hl⟩,le,none,true,out⟩ s)))]:=by
  obtain⟨-,hs⟩:=hneed
  generalize hr:begM s=r
  obtain⟨rc,⟨rm,rt,ri,rf,rl⟩⟩:=r
  unfold xW
  rw [hr]
  unfold begM at hr
  have hsm:=wU s
  refine spcG zi mixed Tryz.func70 (by kernel_rfl) { cfgQ with keep:=some [0,1,4,5,39]} [vw,vk,zcy,zcx,uq,uo,XZ,XY] (by kernel_rfl) ?_
  intro I X hI hX
  refine zh (let y0:=I.hid (α:=(List (Str))) (zK s);let y1:=I.get (α:=Str) y0 ([]:Str) 0;let y2:=I.get (α:=Str) y0 ([]:Str) 1;let y3:=I.get (α:=Str) y0 ([]:Str) 2;.need (I.hid (α:=(Prop)) (LE.le (List.length s) 1000000)) (.br (I.bnot (I.ieq (I.len (α:=Str) y0) 3)) (.fin (.ret (.v (.one (.p (.int .i64 5))))) [(.abs (.rq (Go.Ab.Rq.mk ln p (Hd.mk m tg hm hf hl) le (Option.none) Bool.true out)))]) (.need (I.inb 0 (I.len (α:=Str) y0)) (.need (I.inb 0 (I.len (α:=Str) y0)) (.need (I.hid (α:=(Prop)) (LE.le (List.length y1) 1000000)) (.br (I.bnot (I.hid (α:=Bool) (yF y1))) (.fin (.ret (.v (.one (.p (.int .i64 6))))) [(.abs (.rq (Go.Ab.Rq.mk ln p (Hd.mk m tg hm hf hl) le (Option.none) Bool.true out)))]) (.need (I.inb 1 (I.len (α:=Str) y0)) (.need (I.inb 1 (I.len (α:=Str) y0)) (.need (I.hid (α:=(Prop)) True) (.br (I.bnot (I.hid (α:=Bool) (Go.Lib.hasPrefix y2 ([47]:Str)))) (.fin (.ret (.v (.one (.p (.int .i64 5))))) [(.abs (.rq (Go.Ab.Rq.mk ln p (Hd.mk m tg hm hf hl) le (Option.none) Bool.true out)))]) (.need (I.inb 1 (I.len (α:=Str) y0)) (.need (I.inb 1 (I.len (α:=Str) y0)) (.need (I.hid (α:=(Prop)) True) (.br (I.hid (α:=Bool) (Decidable.decide (LE.le (0:Int) (Go.Lib.indexByte y2 (9:UInt8))))) (.fin (.ret (.v (.one (.p (.int .i64 5))))) [(.abs (.rq (Go.Ab.Rq.mk ln p (Hd.mk m tg hm hf hl) le (Option.none) Bool.true out)))]) (.need (I.inb 0 (I.len (α:=Str) y0)) (.need (I.inb 0 (I.len (α:=Str) y0)) (.need (I.inb 1 (I.len (α:=Str) y0)) (.need (I.inb 1 (I.len (α:=Str) y0)) (.need (I.inb 2 (I.len (α:=Str) y0)) (.need (I.inb 2 (I.len (α:=Str) y0)) (.br (I.seq y3 ([72,84,84,80,47,49,46,49]:Str)) (.fin (.ret (.v (.one (.p (.int .i64 0))))) [(.abs (.rq (Go.Ab.Rq.mk (Go.Ab.Ln.mk (Go.Ab.Ln.b ln) (Go.Ab.Ln.cr ln) (Go.Ab.Ln.code ln)) (1:Int) (Hd.mk y1 y2 (1:Int) ([]:List Fld) (0:Int)) le (Option.none) Bool.true out)))]) (.br (I.seq y3 ([72,84,84,80,47,49,46,48]:Str)) (.fin (.ret (.v (.one (.p (.int .i64 0))))) [(.abs (.rq (Go.Ab.Rq.mk (Go.Ab.Ln.mk (Go.Ab.Ln.b ln) (Go.Ab.Ln.cr ln) (Go.Ab.Ln.code ln)) (1:Int) (Hd.mk y1 y2 (0:Int) ([]:List Fld) (0:Int)) le (Option.none) Bool.true out)))]) (.fin (.ret (.v (.one (.p (.int .i64 11))))) [(.abs (.rq (Go.Ab.Rq.mk (Go.Ab.Ln.mk (Go.Ab.Ln.b ln) (Go.Ab.Ln.cr ln) (Go.Ab.Ln.code ln)) p (Hd.mk y1 y2 (0:Int) ([]:List Fld) (0:Int)) le (Option.none) Bool.true out)))]))))))))))))))))))))))) (by kernel_rfl) ?_
  simp only [zy]
  subst hI
  simp only [nrmA,nrmB,nrlB,reduceCtorEq,HO.abs.injEq,Gh.rq.injEq,Rq.mk.injEq]
  generalize zK s=L at *
  by_cases h3:L.length=3
  · obtain⟨a,b,c,rfl⟩: ∃ a b c,L=[a,b,c]:=by
      match L,h3 with
      |[a,b,c],_=>exact⟨a,b,c,rfl⟩
    have ha:=hsm a (by simp)
    have hb:=hsm b (by simp)
    clear hsm h3
    simp only [show Int.toNat 1=1 from rfl,show Int.toNat 2=2 from rfl,List.getD_cons_zero,List.getD_cons_succ,zc4,zfb,zfa,Bool.decide_eq_true] at hr ⊢
    by_cases q1:yF a=false
    · rw [if_pos q1] at hr
      simp only [Prod.mk.injEq,hd0,Hd.mk.injEq] at hr
      obtain⟨rfl,rfl,rfl,rfl,rfl,rfl⟩:=hr
      (repeat' (first|refine And.intro ?_ ?_|intro _))<;>first|omega|exact True.intro|exact False.elim ‹False›|skip
      all_goals first|omega|rfl|(simp only [List.length_cons,List.length_nil];omega)|(simp_all;done)|trace_state
    rw [if_neg q1] at hr
    by_cases q2:b.head?≠some 47∨b.contains 9=true
    · rw [if_pos q2] at hr
      simp only [Prod.mk.injEq,hd0,Hd.mk.injEq] at hr
      obtain⟨rfl,rfl,rfl,rfl,rfl,rfl⟩:=hr
      (repeat' (first|refine And.intro ?_ ?_|intro _))<;>first|omega|exact True.intro|exact False.elim ‹False›|skip
      all_goals first|omega|rfl|(simp only [List.length_cons,List.length_nil];omega)|(simp_all;done)|trace_state
    rw [if_neg q2] at hr
    by_cases q3:c=qm
    · rw [if_pos q3] at hr
      simp only [Prod.mk.injEq,Hd.mk.injEq] at hr
      obtain⟨rfl,rfl,rfl,rfl,rfl,rfl⟩:=hr
      unfold qm at q3
      (repeat' (first|refine And.intro ?_ ?_|intro _))<;>first|omega|exact True.intro|exact False.elim ‹False›|skip
      all_goals first|omega|rfl|(simp only [List.length_cons,List.length_nil];omega)|(simp_all;done)|trace_state
    rw [if_neg q3] at hr
    by_cases q4:c=YE
    · rw [if_pos q4] at hr
      simp only [Prod.mk.injEq,Hd.mk.injEq] at hr
      obtain⟨rfl,rfl,rfl,rfl,rfl,rfl⟩:=hr
      unfold qm at q3
      unfold YE at q4
      (repeat' (first|refine And.intro ?_ ?_|intro _))<;>first|omega|exact True.intro|exact False.elim ‹False›|skip
      all_goals first|omega|rfl|(simp only [List.length_cons,List.length_nil];omega)|(simp_all;done)|trace_state
    rw [if_neg q4] at hr
    simp only [Prod.mk.injEq,Hd.mk.injEq] at hr
    obtain⟨rfl,rfl,rfl,rfl,rfl,rfl⟩:=hr
    unfold qm at q3
    unfold YE at q4
    (repeat' (first|refine And.intro ?_ ?_|intro _))<;>first|omega|exact True.intro|exact False.elim ‹False›|skip
    all_goals first|omega|rfl|(simp only [List.length_cons,List.length_nil];omega)|(simp_all;done)|trace_state
  · have hr2:(5,hd0)=((rc,⟨rm,rt,ri,rf,rl⟩):Int × Hd):=by
      rw [← hr]
      split
      · exact absurd rfl h3
      · rfl
    simp only [Prod.mk.injEq,hd0,Hd.mk.injEq] at hr2
    obtain⟨rfl,rfl,rfl,rfl,rfl,rfl⟩:=hr2
    (repeat' (first|refine And.intro ?_ ?_|intro _))<;>first|omega|exact True.intro|exact False.elim ‹False›|skip
    all_goals first|omega|rfl|(simp only [List.length_cons,List.length_nil];omega)|trace_state
theorem zh9 (ln:Ln) (p:Int) (m tg:Str) (hm:Int) (hf:List Fld) (hl le:Int) (out:List Evt) (s:Str) (hneed:xk ⟨ln,p,⟨m,tg,hm,hf,hl⟩,le,none,false,out⟩∧s.length≤1000000):Spc Tryz.prog 70 [.v (.one (.ptr 0 0)),.v (.one (.p (.str s)))] [.abs (.rq ⟨ln,p,⟨m,tg,hm,hf,hl⟩,le,none,false,out⟩)] (.ret (.v (.one (.p (.int .i64 ((begM s).1)))))) [.abs (.rq ((xW ⟨ln,p,⟨m,tg,hm,hf,hl⟩,le,none,false,out⟩ s)))]:=by
  exact absurd hneed.1 (fun h=>by unfold xk at h;cases h)
theorem zh6 (ln:Ln) (p:Int) (m tg:Str) (hm:Int) (hf:List Fld) (hl le:Int) (ch:Ch) (out:List Evt) (s:Str) (hneed:xk ⟨ln,p,⟨m,tg,hm,hf,hl⟩,le,some ch,true,out⟩∧s.length≤1000000):Spc Tryz.prog 70 [.v (.one (.ptr 0 0)),.v (.one (.p (.str s)))] [.abs (.rq ⟨ln,p,⟨m,tg,hm,hf,hl⟩,le,some ch,true,out⟩)] (.ret (.v (.one (.p (.int .i64 ((begM s).1)))))) [.abs (.rq ((xW ⟨ln,p,⟨m,tg,hm,hf,hl⟩,le,some ch,true,out⟩ s)))]:=by
  obtain⟨-,hs⟩:=hneed
  generalize hr:begM s=r
  obtain⟨rc,⟨rm,rt,ri,rf,rl⟩⟩:=r
  unfold xW
  rw [hr]
  unfold begM at hr
  have hsm:=wU s
  refine spcG zi mixed Tryz.func70 (by kernel_rfl) { cfgQ with keep:=some [0,1,4,5,39]} [vw,vk,zcy,zcx,uq,uo,XZ,XY] (by kernel_rfl) ?_
  intro I X hI hX
  refine zh (let y0:=I.hid (α:=(List (Str))) (zK s);let y1:=I.get (α:=Str) y0 ([]:Str) 0;let y2:=I.get (α:=Str) y0 ([]:Str) 1;let y3:=I.get (α:=Str) y0 ([]:Str) 2;.need (I.hid (α:=(Prop)) (LE.le (List.length s) 1000000)) (.br (I.bnot (I.ieq (I.len (α:=Str) y0) 3)) (.fin (.ret (.v (.one (.p (.int .i64 5))))) [(.abs (.rq (Go.Ab.Rq.mk ln p (Hd.mk m tg hm hf hl) le (Option.some ch) Bool.true out)))]) (.need (I.inb 0 (I.len (α:=Str) y0)) (.need (I.inb 0 (I.len (α:=Str) y0)) (.need (I.hid (α:=(Prop)) (LE.le (List.length y1) 1000000)) (.br (I.bnot (I.hid (α:=Bool) (yF y1))) (.fin (.ret (.v (.one (.p (.int .i64 6))))) [(.abs (.rq (Go.Ab.Rq.mk ln p (Hd.mk m tg hm hf hl) le (Option.some ch) Bool.true out)))]) (.need (I.inb 1 (I.len (α:=Str) y0)) (.need (I.inb 1 (I.len (α:=Str) y0)) (.need (I.hid (α:=(Prop)) True) (.br (I.bnot (I.hid (α:=Bool) (Go.Lib.hasPrefix y2 ([47]:Str)))) (.fin (.ret (.v (.one (.p (.int .i64 5))))) [(.abs (.rq (Go.Ab.Rq.mk ln p (Hd.mk m tg hm hf hl) le (Option.some ch) Bool.true out)))]) (.need (I.inb 1 (I.len (α:=Str) y0)) (.need (I.inb 1 (I.len (α:=Str) y0)) (.need (I.hid (α:=(Prop)) True) (.br (I.hid (α:=Bool) (Decidable.decide (LE.le (0:Int) (Go.Lib.indexByte y2 (9:UInt8))))) (.fin (.ret (.v (.one (.p (.int .i64 5))))) [(.abs (.rq (Go.Ab.Rq.mk ln p (Hd.mk m tg hm hf hl) le (Option.some ch) Bool.true out)))]) (.need (I.inb 0 (I.len (α:=Str) y0)) (.need (I.inb 0 (I.len (α:=Str) y0)) (.need (I.inb 1 (I.len (α:=Str) y0)) (.need (I.inb 1 (I.len (α:=Str) y0)) (.need (I.inb 2 (I.len (α:=Str) y0)) (.need (I.inb 2 (I.len (α:=Str) y0)) (.br (I.seq y3 ([72,84,84,80,47,49,46,49]:Str)) (.fin (.ret (.v (.one (.p (.int .i64 0))))) [(.abs (.rq (Go.Ab.Rq.mk (Go.Ab.Ln.mk (Go.Ab.Ln.b ln) (Go.Ab.Ln.cr ln) (Go.Ab.Ln.code ln)) (1:Int) (Hd.mk y1 y2 (1:Int) ([]:List Fld) (0:Int)) le (Option.some (Go.Ab.Ch.mk (Go.Ab.Ln.mk (Go.Ab.Ln.b (Go.Ab.Ch.ln ch)) (Go.Ab.Ln.cr (Go.Ab.Ch.ln ch)) (Go.Ab.Ln.code (Go.Ab.Ch.ln ch))) (Go.Ab.Ch.pos ch) (Go.Ab.Ch.left ch) (Go.Ab.Ch.all ch) (Go.Ab.Ch.tails ch) (Go.Ab.Ch.code ch))) Bool.true out)))]) (.br (I.seq y3 ([72,84,84,80,47,49,46,48]:Str)) (.fin (.ret (.v (.one (.p (.int .i64 0))))) [(.abs (.rq (Go.Ab.Rq.mk (Go.Ab.Ln.mk (Go.Ab.Ln.b ln) (Go.Ab.Ln.cr ln) (Go.Ab.Ln.code ln)) (1:Int) (Hd.mk y1 y2 (0:Int) ([]:List Fld) (0:Int)) le (Option.some (Go.Ab.Ch.mk (Go.Ab.Ln.mk (Go.Ab.Ln.b (Go.Ab.Ch.ln ch)) (Go.Ab.Ln.cr (Go.Ab.Ch.ln ch)) (Go.Ab.Ln.code (Go.Ab.Ch.ln ch))) (Go.Ab.Ch.pos ch) (Go.Ab.Ch.left ch) (Go.Ab.Ch.all ch) (Go.Ab.Ch.tails ch) (Go.Ab.Ch.code ch))) Bool.true out)))]) (.fin (.ret (.v (.one (.p (.int .i64 11))))) [(.abs (.rq (Go.Ab.Rq.mk (Go.Ab.Ln.mk (Go.Ab.Ln.b ln) (Go.Ab.Ln.cr ln) (Go.Ab.Ln.code ln)) p (Hd.mk y1 y2 (0:Int) ([]:List Fld) (0:Int)) le (Option.some (Go.Ab.Ch.mk (Go.Ab.Ln.mk (Go.Ab.Ln.b (Go.Ab.Ch.ln ch)) (Go.Ab.Ln.cr (Go.Ab.Ch.ln ch)) (Go.Ab.Ln.code (Go.Ab.Ch.ln ch))) (Go.Ab.Ch.pos ch) (Go.Ab.Ch.left ch) (Go.Ab.Ch.all ch) (Go.Ab.Ch.tails ch) (Go.Ab.Ch.code ch))) Bool.true out)))]))))))))))))))))))))))) (by kernel_rfl) ?_
  simp only [zy]
  subst hI
  simp only [nrmA,nrmB,nrlB,reduceCtorEq,HO.abs.injEq,Gh.rq.injEq,Rq.mk.injEq]
  generalize zK s=L at *
  by_cases h3:L.length=3
  · obtain⟨a,b,c,rfl⟩: ∃ a b c,L=[a,b,c]:=by
      match L,h3 with
      |[a,b,c],_=>exact⟨a,b,c,rfl⟩
    have ha:=hsm a (by simp)
    have hb:=hsm b (by simp)
    clear hsm h3
    simp only [show Int.toNat 1=1 from rfl,show Int.toNat 2=2 from rfl,List.getD_cons_zero,List.getD_cons_succ,zc4,zfb,zfa,Bool.decide_eq_true] at hr ⊢
    by_cases q1:yF a=false
    · rw [if_pos q1] at hr
      simp only [Prod.mk.injEq,hd0,Hd.mk.injEq] at hr
      obtain⟨rfl,rfl,rfl,rfl,rfl,rfl⟩:=hr
      (repeat' (first|refine And.intro ?_ ?_|intro _))<;>first|omega|exact True.intro|exact False.elim ‹False›|skip
      all_goals first|omega|rfl|(simp only [List.length_cons,List.length_nil];omega)|(simp_all;done)|trace_state
    rw [if_neg q1] at hr
    by_cases q2:b.head?≠some 47∨b.contains 9=true
    · rw [if_pos q2] at hr
      simp only [Prod.mk.injEq,hd0,Hd.mk.injEq] at hr
      obtain⟨rfl,rfl,rfl,rfl,rfl,rfl⟩:=hr
      (repeat' (first|refine And.intro ?_ ?_|intro _))<;>first|omega|exact True.intro|exact False.elim ‹False›|skip
      all_goals first|omega|rfl|(simp only [List.length_cons,List.length_nil];omega)|(simp_all;done)|trace_state
    rw [if_neg q2] at hr
    by_cases q3:c=qm
    · rw [if_pos q3] at hr
      simp only [Prod.mk.injEq,Hd.mk.injEq] at hr
      obtain⟨rfl,rfl,rfl,rfl,rfl,rfl⟩:=hr
      unfold qm at q3
      (repeat' (first|refine And.intro ?_ ?_|intro _))<;>first|omega|exact True.intro|exact False.elim ‹False›|skip
      all_goals first|omega|rfl|(simp only [List.length_cons,List.length_nil];omega)|(simp_all;done)|trace_state
    rw [if_neg q3] at hr
    by_cases q4:c=YE
    · rw [if_pos q4] at hr
      simp only [Prod.mk.injEq,Hd.mk.injEq] at hr
      obtain⟨rfl,rfl,rfl,rfl,rfl,rfl⟩:=hr
      unfold qm at q3
      unfold YE at q4
      (repeat' (first|refine And.intro ?_ ?_|intro _))<;>first|omega|exact True.intro|exact False.elim ‹False›|skip
      all_goals first|omega|rfl|(simp only [List.length_cons,List.length_nil];omega)|(simp_all;done)|trace_state
    rw [if_neg q4] at hr
    simp only [Prod.mk.injEq,Hd.mk.injEq] at hr
    obtain⟨rfl,rfl,rfl,rfl,rfl,rfl⟩:=hr
    unfold qm at q3
    unfold YE at q4
    (repeat' (first|refine And.intro ?_ ?_|intro _))<;>first|omega|exact True.intro|exact False.elim ‹False›|skip
    all_goals first|omega|rfl|(simp only [List.length_cons,List.length_nil];omega)|(simp_all;done)|trace_state
  · have hr2:(5,hd0)=((rc,⟨rm,rt,ri,rf,rl⟩):Int × Hd):=by
      rw [← hr]
      split
      · exact absurd rfl h3
      · rfl
    simp only [Prod.mk.injEq,hd0,Hd.mk.injEq] at hr2
    obtain⟨rfl,rfl,rfl,rfl,rfl,rfl⟩:=hr2
    (repeat' (first|refine And.intro ?_ ?_|intro _))<;>first|omega|exact True.intro|exact False.elim ‹False›|skip
    all_goals first|omega|rfl|(simp only [List.length_cons,List.length_nil];omega)|trace_state
theorem zh7 (ln:Ln) (p:Int) (m tg:Str) (hm:Int) (hf:List Fld) (hl le:Int) (ch:Ch) (out:List Evt) (s:Str) (hneed:xk ⟨ln,p,⟨m,tg,hm,hf,hl⟩,le,some ch,false,out⟩∧s.length≤1000000):Spc Tryz.prog 70 [.v (.one (.ptr 0 0)),.v (.one (.p (.str s)))] [.abs (.rq ⟨ln,p,⟨m,tg,hm,hf,hl⟩,le,some ch,false,out⟩)] (.ret (.v (.one (.p (.int .i64 ((begM s).1)))))) [.abs (.rq ((xW ⟨ln,p,⟨m,tg,hm,hf,hl⟩,le,some ch,false,out⟩ s)))]:=by
  exact absurd hneed.1 (fun h=>by unfold xk at h;cases h)
theorem zky (q:Rq) (s:Str) (hneed:xk q∧s.length≤1000000):Spc Tryz.prog 70 [.v (.one (.ptr 0 0)),.v (.one (.p (.str s)))] [.abs (.rq q)] (.ret (.v (.one (.p (.int .i64 ((begM s).1)))))) [.abs (.rq ((xW q s)))]:=by
  obtain⟨ln,p,⟨m,tg,hm,hf,hl⟩,le,ck,own,out⟩:=q
  cases ck with
  | none=>cases own with
    |true=>exact zh8 ln p m tg hm hf hl le out s hneed
    |false=>exact zh9 ln p m tg hm hf hl le out s hneed
  | some ch=>cases own with
    |true=>exact zh6 ln p m tg hm hf hl le ch out s hneed
    |false=>exact zh7 ln p m tg hm hf hl le ch out s hneed
def Wy (I:Alg) (args:List D) (hp:List HO):Option CT:=match args,hp with
  |[.v (.one (.ptr 0 0)),.v (.one (.p (.str s)))],[.abs (.rq q)]=>(fun(q:Rq) (s:Str)=>(some (.one ⟨I.hid (xk q∧s.length≤1000000),(.ret (.v (.one (.p (.int .i64 (I.hid ((begM s).1))))))),[.abs (.rq (I.hid ((xW q s))))]⟩):Option CT)) q s
  |_,_=>none
theorem zcX:zD Tryz.prog 70 (Wy alg):=by
  intro args hp r h
  unfold Wy at h
  split at h
  · cases h;exact fun hn=>zky _ _ hn
  · cases h
def zcW:Know Tryz.prog:=⟨70,Wy,zcX⟩
def zcV:Know Tryz.prog:=⟨70,fun I=>zH I (Wy I),zf zcX⟩
def FsOk (f:List Fld):Prop:=f.length≤1000∧∀ x ∈ f,x.name.length≤1000000∧x.value.length≤1000000
theorem wG (f:List Fld) (n:Str):(valsF f n).length≤f.length:=by
  unfold valsF
  first|exact Nat.le_trans (List.length_map ..).le (List.length_filter_le _ _)|(rw [List.length_map];exact List.length_filter_le _ _)|exact List.length_filterMap_le _ _
theorem zcD (a:Str) (n:Int) (l:List Str) (i:Nat) (h: ¬ i<l.length):sizM a n (l.drop i)=(n,0):=by
  rw [List.drop_of_length_le (by omega)];rfl
theorem QT (a:Str) (n:Int) (l:List Str) (i:Nat) (h:i<l.length):sizM a n (l.drop i)=if(numA (l.getD i []) 10 9).2=false then(0,7) else if l.getD i []≠a then(0,12) else sizM a (numA (l.getD i []) 10 9).1 (l.drop (i+1)):=by
  rw [List.drop_eq_getElem_cons h,show l.getD i []=l[i] by simp [h]];rfl
theorem zkw (m t:Str) (mi:Int) (f:List Fld) (le:Int) (hneed:FsOk f):Spc Tryz.prog 88 [.v (.agg [(.p (.str m)),(.p (.str t)),(.p (.int .i64 mi)),(.p (.list .fld f)),(.p (.int .i64 le))])] [] (.ret (.tup [(.one (.p (.int .i64 ((lenM mi f).1)))),(.one (.p (.int .i64 ((lenM mi f).2))))])) []:=by
  obtain⟨hf1,hf2⟩:=hneed
  generalize hr:lenM mi f=r
  obtain⟨rn,rc⟩:=r
  refine spcG zi mixed Tryz.func88 (by kernel_rfl) { keep:=some [0,1,2,3,4,5,6,7,8,9,10,45,46,47]} [YQ,YP,Ul,Uk,Sm,Sl] (by kernel_rfl) ?_
  intro I X hI hX
  refine zh (let y0:=I.hid (α:=(List (Str))) (valsF f ([116,114,97,110,115,102,101,114,45,101,110,99,111,100,105,110,103]:Str));let y1:=I.hid (α:=(List (Str))) (valsF f ([99,111,110,116,101,110,116,45,108,101,110,103,116,104]:Str));let y2:=I.bnot (I.seq (I.hid (α:=Str) (lowS (I.get (α:=Str) y0 ([]:Str) 0))) ([99,104,117,110,107,101,100]:Str));let y3:HO:=.obj 25 [(.p (.str m)),(.p (.str t)),(.p (.int .i64 mi)),(.p (.list .fld f)),(.p (.int .i64 le))];let y4:=I.hid (α:=(Prop)) (LE.le (List.length (I.get (α:=Str) y0 ([]:Str) 0)) 1000000);.need (I.hid (α:=(Prop)) (And (LE.le (List.length f) 1000) (And (LE.le (List.length ([99,111,110,116,101,110,116,45,108,101,110,103,116,104]:Str)) 1000000) (∀ (f_1:Fld),f_1 ∈ f→List.length f_1.name≤1000000∧List.length f_1.value≤1000000)))) (.need (I.hid (α:=(Prop)) (And (LE.le (List.length f) 1000) (And (LE.le (List.length ([116,114,97,110,115,102,101,114,45,101,110,99,111,100,105,110,103]:Str)) 1000000) (∀ (f_1:Fld),f_1 ∈ f→List.length f_1.name≤1000000∧List.length f_1.value≤1000000)))) (.br (I.ilt 0 (I.len (α:=Str) y0)) (.br (I.ilt 0 (I.len (α:=Str) y1)) (.fin (.ret (.tup [(.one (.p (.int .i64 0))),(.one (.p (.int .i64 12)))])) []) (.br (I.ieq mi 0) (.fin (.ret (.tup [(.one (.p (.int .i64 0))),(.one (.p (.int .i64 12)))])) []) (.br (I.ilt 0 (I.len (α:=Str) y0)) (.br (I.ilt 1 (I.len (α:=Str) y0)) (.fin (.ret (.tup [(.one (.p (.int .i64 0))),(.one (.p (.int .i64 11)))])) []) (.need (I.inb 0 (I.len (α:=Str) y0)) (.need (I.inb 0 (I.len (α:=Str) y0)) (.need y4 (.br y2 (.fin (.ret (.tup [(.one (.p (.int .i64 0))),(.one (.p (.int .i64 11)))])) []) (.fin (.ret (.tup [(.one (.p (.int .i64 (Neg.neg (1:Int))))),(.one (.p (.int .i64 0)))])) [])))))) (.code 0 [1,1,1,1,0,1,0] ⟨[(47,(.v (.one (.p (.int .i64 0))))),(46,(.v (.one (.p (.int .i64 (I.len (α:=Str) y1)))))),(45,(.v (.one (.row 1)))),(6,(.v (.one (.p (.int .i64 0))))),(5,(.v (.one (.row 2)))),(4,(.v (.one (.row 1)))),(3,(.v (.one (.p (.int .i64 0))))),(2,(.v (.one (.p (.int .i64 0))))),(1,(.v (.one (.ptr 0 0)))),(0,(.v (.agg [(.p (.str m)),(.p (.str t)),(.p (.int .i64 mi)),(.p (.list .fld f)),(.p (.int .i64 le))])))],[y3,(.row .str 9 y1),(.row .str 9 y0)],75,none⟩)))) (.br (I.ilt 0 (I.len (α:=Str) y0)) (.br (I.ilt 1 (I.len (α:=Str) y0)) (.fin (.ret (.tup [(.one (.p (.int .i64 0))),(.one (.p (.int .i64 11)))])) []) (.need (I.inb 0 (I.len (α:=Str) y0)) (.need (I.inb 0 (I.len (α:=Str) y0)) (.need y4 (.br y2 (.fin (.ret (.tup [(.one (.p (.int .i64 0))),(.one (.p (.int .i64 11)))])) []) (.fin (.ret (.tup [(.one (.p (.int .i64 (Neg.neg (1:Int))))),(.one (.p (.int .i64 0)))])) [])))))) (.code 0 [1,1,1,1,0,1,0] ⟨[(47,(.v (.one (.p (.int .i64 0))))),(46,(.v (.one (.p (.int .i64 (I.len (α:=Str) y1)))))),(45,(.v (.one (.row 1)))),(6,(.v (.one (.p (.int .i64 0))))),(5,(.v (.one (.row 2)))),(4,(.v (.one (.row 1)))),(3,(.v (.one (.p (.int .i64 0))))),(2,(.v (.one (.p (.int .i64 0))))),(1,(.v (.one (.ptr 0 0)))),(0,(.v (.agg [(.p (.str m)),(.p (.str t)),(.p (.int .i64 mi)),(.p (.list .fld f)),(.p (.int .i64 le))])))],[y3,(.row .str 9 y1),(.row .str 9 y0)],75,none⟩))))) (by kernel_rfl) ?_
  simp only [zy]
  have hh: ∀ {α:Type} (x:α),I.hid x=x:=by subst hI;intros;rfl
  have hln: ∀ (l:List Str),I.len l=(l.length:Int):=by subst hI;intros;rfl
  simp only [hh,hln]
  unfold lenM at hr
  rw [show rW=[116,114,97,110,115,102,101,114,45,101,110,99,111,100,105,110,103] from rfl,show wR=[99,111,110,116,101,110,116,45,108,101,110,103,116,104] from rfl] at hr
  have hL1:=wG f [99,111,110,116,101,110,116,45,108,101,110,103,116,104]
  have hT1:=wG f [116,114,97,110,115,102,101,114,45,101,110,99,111,100,105,110,103]
  have hT2: ∀ x ∈ valsF f [116,114,97,110,115,102,101,114,45,101,110,99,111,100,105,110,103],x.length≤1000000:=by
    intro x hx
    unfold valsF at hx
    rw [List.mem_map] at hx
    obtain⟨y,hy,rfl⟩:=hx
    exact(hf2 y (List.mem_filter.1 hy).1).2
  generalize valsF f [99,111,110,116,101,110,116,45,108,101,110,103,116,104]=L at *
  generalize valsF f [116,114,97,110,115,102,101,114,45,101,110,99,111,100,105,110,103]=T at *
  have keyL: ∀ (k:Int) (st:St),k=(L.length:Int)→(if(sizM (L.getD 0 []) 0 L).2≠0 then(0,(sizM (L.getD 0 []) 0 L).2) else if 4000<(sizM (L.getD 0 []) 0 L).1 then(0,4) else((sizM (L.getD 0 []) 0 L).1,0))=(rn,rc)→cutM { keep:=some [0,1,2,3,4,5,6,7,8,9,10,45,46,47]} 0 [4,6,45,46,47] st=some ⟨[(4,.v (.one (.row 0))),(6,.v (.one (.p (.int .i64 0)))),(45,.v (.one (.row 0))),(46,.v (.one (.p (.int .i64 k)))),(47,.v (.one (.p (.int .i64 0))))],[.row .str 9 L],75,none⟩→Ok Tryz.prog X (fun o h=>o=(.ret (.tup [(.one (.p (.int .i64 rn))),(.one (.p (.int .i64 rc)))]))∧h=[]) (leaf I tab { keep:=some [0,1,2,3,4,5,6,7,8,9,10,45,46,47]} [⟨Uw Tryz.f88,finK I tab { keep:=some [0,1,2,3,4,5,6,7,8,9,10,45,46,47]} 0 Tryz.f88⟩] 0 [1,1,1,1,0,1,0] st):=by
    intro k st hk hm hst
    refine zG hI zi mixed [YQ,YP,Ul,Uk,Sm,Sl] hX [4,6,45,46,47] (fun(g:Nat × Int)=>match g with|(i,n)=>i≤L.length∧(if(sizM (L.getD 0 []) n (L.drop i)).2≠0 then(0,(sizM (L.getD 0 []) n (L.drop i)).2) else if 4000<(sizM (L.getD 0 []) n (L.drop i)).1 then(0,4) else((sizM (L.getD 0 []) n (L.drop i)).1,0))=(rn,rc)) (fun(g:Nat × Int)=>match g with|(i,n)=>⟨[(4,.v (.one (.row 0))),(6,.v (.one (.p (.int .i64 n)))),(45,.v (.one (.row 0))),(46,.v (.one (.p (.int .i64 k)))),(47,.v (.one (.p (.int .i64 i))))],[.row .str 9 L],75,none⟩) (fun(g:Nat × Int)=>match g with|(i,n)=>L.length - i) (0,0) (by kernel_rfl) hst ?_ ?_
    · exact⟨Nat.zero_le _,hm⟩
    clear hm hst hr
    rintro⟨i,n⟩ ⟨h1,hm⟩ A hA
    simp only at hA
    refine zh (let y0:=I.get (α:=Str) L ([]:Str) (Nat.cast i);let y1:=I.hid (α:=Int) (Prod.fst (numA y0 (10:Int) (9:Int)));let y2:=I.inr Go.IntKind.i64 (I.add (Nat.cast i) 1);let y3:=I.inb (Nat.cast i) (I.len (α:=Str) L);.br (I.ilt (Nat.cast i) k) (.need y3 (.need y3 (.need (I.hid (α:=(Prop)) True) (.br (I.bnot (I.hid (α:=Bool) (Prod.snd (numA y0 (10:Int) (9:Int))))) (.fin (.ret (.tup [(.one (.p (.int .i64 0))),(.one (.p (.int .i64 7)))])) []) (.br (I.ilt 0 (Nat.cast i)) (.need (I.inb 0 (I.len (α:=Str) L)) (.need (I.inb 0 (I.len (α:=Str) L)) (.br (I.bnot (I.seq y0 (I.get (α:=Str) L ([]:Str) 0))) (.fin (.ret (.tup [(.one (.p (.int .i64 0))),(.one (.p (.int .i64 12)))])) []) (.need y2 (.need (A ⟨[(4,(.v (.one (.row 0)))),(6,(.v (.one (.p (.int .i64 y1))))),(45,(.v (.one (.row 0)))),(46,(.v (.one (.p (.int .i64 k))))),(47,(.v (.one (.p (.int .i64 (I.add (Nat.cast i) 1))))))],[(.row .str 9 L)],75,none⟩) .qed))))) (.need y2 (.need (A ⟨[(4,(.v (.one (.row 0)))),(6,(.v (.one (.p (.int .i64 y1))))),(45,(.v (.one (.row 0)))),(46,(.v (.one (.p (.int .i64 k))))),(47,(.v (.one (.p (.int .i64 (I.add (Nat.cast i) 1))))))],[(.row .str 9 L)],75,none⟩) .qed))))))) (.br (I.ilt 4000 n) (.fin (.ret (.tup [(.one (.p (.int .i64 0))),(.one (.p (.int .i64 4)))])) []) (.fin (.ret (.tup [(.one (.p (.int .i64 n))),(.one (.p (.int .i64 0)))])) []))) (by kernel_rfl) ?_
    simp only [zy]
    subst hI
    simp only [nrmA,nrmB]
    by_cases hi:i<L.length
    · rw [QT _ _ _ _ hi] at hm
      have h0:i=0→L.getD i []=L.getD 0 []:=fun h=>by rw [h]
      have hn:=ZG (L.getD i [])
      have hgo:=hA (i+1,(numA (L.getD i []) 10 9).1)
      generalize L.getD i []=x at *
      generalize L.getD 0 []=y at *
      generalize numA x 10 9=na at *
      obtain⟨na,nb⟩:=na
      simp only at hm hgo hn
      cases nb with
      | false=>
        rw [if_pos rfl] at hm
        simp only [ne_eq,Int.reduceEq,not_false_eq_true,if_true,Prod.mk.injEq] at hm
        obtain⟨rfl,rfl⟩:=hm
        (repeat' (first|refine And.intro ?_ ?_|intro _))<;>first|omega|exact True.intro|exact False.elim ‹False›|skip
        all_goals first|omega|rfl|contradiction|(simp_all;done)|trace_state
      | true=>
        simp only [Bool.true_eq_false,if_false] at hm
        by_cases hxy:x=y
        · simp only [if_neg (fun h:x≠y=>h hxy)] at hm
          have hg:=hgo ⟨by omega,hm⟩ (by omega)
          (repeat' (first|refine And.intro ?_ ?_|intro _))<;>first|omega|exact True.intro|exact False.elim ‹False›|skip
          all_goals first|omega|exact hg|contradiction|(exfalso;exact ‹¬ x=y› hxy)|trace_state
        · simp only [if_pos (show x≠y from hxy),ne_eq,Int.reduceEq,not_false_eq_true,if_true,Prod.mk.injEq] at hm
          obtain⟨rfl,rfl⟩:=hm
          have hi0: ¬ i=0:=fun h=>hxy (h0 h)
          (repeat' (first|refine And.intro ?_ ?_|intro _))<;>first|omega|exact True.intro|exact False.elim ‹False›|skip
          all_goals first|omega|rfl|contradiction|(exfalso;exact hxy ‹x=y›)|trace_state
    · rw [zcD _ _ _ _ hi] at hm
      simp only [ne_eq,not_true_eq_false,if_false] at hm
      by_cases h4:4000<n
      · rw [if_pos h4] at hm
        simp only [Prod.mk.injEq] at hm
        obtain⟨rfl,rfl⟩:=hm
        (repeat' (first|refine And.intro ?_ ?_|intro _))<;>first|omega|exact True.intro|exact False.elim ‹False›|skip
        all_goals first|omega|rfl|trace_state
      · rw [if_neg h4] at hm
        simp only [Prod.mk.injEq] at hm
        obtain⟨rfl,rfl⟩:=hm
        (repeat' (first|refine And.intro ?_ ?_|intro _))<;>first|omega|exact True.intro|exact False.elim ‹False›|skip
        all_goals first|omega|rfl|trace_state
  subst hI
  have hT0:T.length=0↔T=[]:=List.length_eq_zero_iff
  have hLz:L.length=0↔L=[]:=List.length_eq_zero_iff
  simp only [nrmA,nrmB]
  have hg0:0<T.length→(T.getD 0 []).length≤1000000:=fun h=>hT2 _ (by rw [show T.getD 0 []=T[0] by simp [h]];exact List.getElem_mem h)
  by_cases q1:T=[]
  · rw [if_neg (fun h=>h q1)] at hr
    have q2:=hT0.2 q1
    clear hg0 hT2
    (repeat' (first|refine And.intro ?_ ?_|intro _))<;>first|omega|exact True.intro|exact False.elim ‹False›|skip
    all_goals first
      |omega
      |((with_reducible show Ok _ _ _ _);(try(exfalso;omega));exact keyL _ _ rfl hr (by kernel_rfl))
      |exact⟨hf1,by decide,hf2⟩
      |exact hf1
      |(exact(hf2 _ ‹_›).1)
      |(exact(hf2 _ ‹_›).2)
      |decide
  · rw [if_pos q1] at hr
    have q2: ¬ T.length=0:=fun h=>q1 (hT0.1 h)
    clear keyL
    by_cases q3:L≠[]∨mi=0
    · rw [if_pos q3] at hr
      simp only [Prod.mk.injEq] at hr
      obtain⟨rfl,rfl⟩:=hr
      have q4:L.length=0→mi=0:=fun h=>by
        rcases q3 with q3|q3
        · exact absurd (hLz.1 h) q3
        · exact q3
      (repeat' (first|refine And.intro ?_ ?_|intro _))<;>first|omega|exact True.intro|exact False.elim ‹False›|skip
      all_goals first|omega|rfl|(exact(hf2 _ ‹_›).1)|(exact(hf2 _ ‹_›).2)|decide|trace_state
    · rw [if_neg q3] at hr
      simp only [not_or,ne_eq,Decidable.not_not] at q3
      have q4:=hLz.2 q3.1
      by_cases q5:1<T.length∨lowS (T.getD 0 [])≠YN
      · rw [if_pos q5] at hr
        unfold YN at q5
        simp only [Prod.mk.injEq] at hr
        obtain⟨rfl,rfl⟩:=hr
        (repeat' (first|refine And.intro ?_ ?_|intro _))<;>first|omega|exact True.intro|exact False.elim ‹False›|skip
        all_goals first|omega|rfl|(exact(hf2 _ ‹_›).1)|(exact(hf2 _ ‹_›).2)|decide|exact hg0 (by omega)|(exfalso;rcases q5 with q5|q5<;>first|omega|exact q5 ‹_›)|trace_state
      · rw [if_neg q5] at hr
        unfold YN at q5
        simp only [not_or,ne_eq,Decidable.not_not] at q5
        simp only [Prod.mk.injEq] at hr
        obtain⟨rfl,rfl⟩:=hr
        (repeat' (first|refine And.intro ?_ ?_|intro _))<;>first|omega|exact True.intro|exact False.elim ‹False›|skip
        all_goals first|omega|rfl|(exact(hf2 _ ‹_›).1)|(exact(hf2 _ ‹_›).2)|decide|exact hg0 (by omega)|(exfalso;exact ‹¬ _=_› q5.2)|trace_state
def Wu (I:Alg) (args:List D) (hp:List HO):Option CT:=match args,hp with
  |[.v (.agg [(.p (.str m)),(.p (.str t)),(.p (.int .i64 mi)),(.p (.list .fld f)),(.p (.int .i64 le))])],[]=>(fun(m t:Str) (mi:Int) (f:List Fld) (le:Int)=>(some (.one ⟨I.hid (FsOk f),(.ret (.tup [(.one (.p (.int .i64 (I.hid ((lenM mi f).1))))),(.one (.p (.int .i64 (I.hid ((lenM mi f).2)))))])),[]⟩):Option CT)) m t mi f le
  |_,_=>none
theorem zcT:zD Tryz.prog 88 (Wu alg):=by
  intro args hp r h
  unfold Wu at h
  split at h
  · cases h;exact fun hn=>zkw _ _ _ _ _ hn
  · cases h
def zcS:Know Tryz.prog:=⟨88,Wu,zcT⟩
def zcR:Know Tryz.prog:=⟨88,fun I=>zH I (Wu I),zf zcT⟩
end Go.Proofs.YtmibhbdfigpkmaaGreatDoor
namespace Go.Proofs.YtmibhbdfigpkmaaGreatDoor
open Go Go.Sep Go.Ab
set_option maxRecDepth 100000
def spl:List Str→Str→Str→List Str
  |l,w,[]=>l++[w]
  |l,w,c::r=>if c=32 then spl (l++[w]) [] r else spl l (w++[c]) r
theorem zfe: ∀ (r:Str) (l:List Str) (w:Str),spl l w r=l++(match zK r with|[]=>[w]|x::xs=>(w++x)::xs)
  |[],l,w=>by simp [spl,zK]
  | c ::r,l,w=>by
    have hn:=qH r
    rw [spl]
    split
    · rename_i h
      rw [zfe r,zK,if_pos h]
      cases hs:zK r with
      |nil=>exact absurd hs hn
      |cons x xs=>simp
    · rename_i h
      rw [zfe r,zK,if_neg h]
      cases hs:zK r with
      |nil=>exact absurd hs hn
      |cons x xs=>simp
theorem zkn (s:Str):spl [] [] s=zK s:=by
  rw [zfe]
  cases hs:zK s with
  |nil=>exact absurd hs (qH s)
  |cons x xs=>simp
theorem zbx: ∀ (r:Str) (l:List Str) (w:Str),(spl l w r).length≤l.length+1+r.length∧((∀ x ∈ l,x.length≤1000000)→w.length+r.length≤1000000→∀ x ∈ spl l w r,x.length≤1000000)
  | [],l,w=>⟨by simp [spl],fun h k x hx=>by
      rcases List.mem_append.1 hx with hx|hx
      · exact h x hx
      · rw [List.mem_singleton.1 hx];simpa using k⟩
  | c ::r,l,w=>by
    rw [spl]
    split
    · obtain⟨h1,h2⟩:=zbx r (l++[w]) []
      rw [List.length_append,List.length_singleton] at h1
      refine⟨by rw [List.length_cons];omega,fun h k=>h2 (fun x hx=> ?_) (by rw [List.length_cons] at k;simp;omega)⟩
      rcases List.mem_append.1 hx with hx|hx
      · exact h x hx
      · rw [List.mem_singleton.1 hx];omega
    · obtain⟨h1,h2⟩:=zbx r l (w++[c])
      refine⟨by rw [List.length_cons];omega,fun h k=>h2 h (by rw [List.length_append];rw [List.length_cons] at k;simp;omega)⟩
def firM (s:Str):Hd × Int:=
  match zK s with
  | [a,b,c]=>
    if yF a=false then(hd0,6)
    else if b.head?≠some 47∨b.contains 9=true then(hd0,5)
    else if c=qm then(⟨a,b,1,[],0⟩,0)
    else if c=YE then(⟨a,b,0,[],0⟩,0)
    else(hd0,11)
  |_=>(hd0,5)
theorem ziv (s:Str):(firM s).2=(begM s).1∧((begM s).1=0→(firM s).1=(begM s).2):=by
  unfold firM begM
  rcases zK s with _|⟨a,_|⟨b,_|⟨c,_|⟨d,e⟩⟩⟩⟩
  · exact⟨rfl,fun h=>absurd h (by simp)⟩
  · exact⟨rfl,fun h=>absurd h (by simp)⟩
  · exact⟨rfl,fun h=>absurd h (by simp)⟩
  · simp only
    by_cases h1:yF a=false
    · rw [if_pos h1,if_pos h1];exact⟨rfl,fun h=>absurd h (by decide)⟩
    rw [if_neg h1,if_neg h1]
    by_cases h2:b.head?≠some 47∨b.contains 9=true
    · rw [if_pos h2,if_pos h2];exact⟨rfl,fun h=>absurd h (by decide)⟩
    rw [if_neg h2,if_neg h2]
    by_cases h3:c=qm
    · rw [if_pos h3,if_pos h3];exact⟨rfl,fun _=>rfl⟩
    rw [if_neg h3,if_neg h3]
    by_cases h4:c=YE
    · rw [if_pos h4,if_pos h4];exact⟨rfl,fun _=>rfl⟩
    rw [if_neg h4,if_neg h4]
    exact⟨rfl,fun h=>absurd h (by simp)⟩
  · exact⟨rfl,fun h=>absurd h (by simp)⟩
theorem zeL (s:Str) (hneed:s.length≤1000000):Spc Tryz.prog 25 [.v (.one (.p (.str s)))] [] (.ret (.tup [(.agg [(.p (.str ((firM s).1.method))),(.p (.str ((firM s).1.target))),(.p (.int .i64 ((firM s).1.minor))),.nilS,(.p (.int .i64 ((firM s).1.length)))]),(.one (.p (.int .i64 ((firM s).2))))])) []:=by
  generalize hr:firM s=r
  refine spcG zi mixed Tryz.func25 (by kernel_rfl) { nr:=[4],raw:=true,keep:=some [0,2,3,4,5,6,7]} [xP,xO,yX,yV] (by kernel_rfl) ?_
  intro I X hI hX
  refine zh (.code 0 [1,1,1,0,1,0] ⟨[(6,(.v (.one (.p (.int .i64 0))))),(5,(.v (.one (.p (.str ([]:Str)))))),(4,(.v (.one (.row 1)))),(3,(.v (.one (.p (.int .i64 0))))),(2,(.v (.one (.ptr 0 0)))),(0,(.v (.one (.p (.str s)))))],[(.obj 25 [(.p (.str ([]:Str))),(.p (.str ([]:Str))),(.p (.int .i64 0)),.nilS,(.p (.int .i64 0))]),(.row .str 9 ([]:List (Str)))],82,none⟩) (by kernel_rfl) ?_
  simp only [zy]
  refine zG hI zi mixed [xP,xO,yX,yV] hX [0,2,3,4,5,6] (fun(g:Nat × List Str × Str)=>match g with|(i,l,w)=>i≤s.length∧l.length≤i∧(∀ x ∈ l,x.length≤1000000)∧w.length≤i∧spl l w (s.drop i)=zK s) (fun(g:Nat × List Str × Str)=>match g with|(i,l,w)=>⟨[(0,.v (.one (.p (.str s)))),(2,.v (.one (.ptr 0 0))),(3,.v (.one (.p (.int .i64 0)))),(4,.v (.one (.row 1))),(5,.v (.one (.p (.str w)))),(6,.v (.one (.p (.int .i64 i))))],[.pack [.obj 25 [(.p (.str ([]))),(.p (.str ([]))),(.p (.int .i64 0)),.nilS,(.p (.int .i64 0))]],.row .str 9 l],82,none⟩) (fun(g:Nat × List Str × Str)=>match g with|(i,l,w)=>s.length - i) (0,[],[]) (by kernel_rfl) (by kernel_rfl) ?_ ?_
  · exact⟨Nat.zero_le _,Nat.zero_le _,(fun x h=>by cases h),Nat.zero_le _,zkn s⟩
  rintro⟨i,l,w⟩ ⟨h1,h2,h3,h4,h5⟩ A hA
  simp only at hA h1 h2 h3 h4 h5
  have hsl:=zbx s [] []
  rw [zkn] at hsl
  refine zh (let y0:=I.len (α:=Str) (I.app (α:=Str) l ([w]:List (Str)));let y1:=I.get (α:=Str) (I.app (α:=Str) l ([w]:List (Str))) ([]:Str) 1;let y2:=I.get (α:=Str) (I.app (α:=Str) l ([w]:List (Str))) ([]:Str) 0;let y3:HO:=.pack [(.obj 25 [(.p (.str ([]:Str))),(.p (.str ([]:Str))),(.p (.int .i64 0)),.nilS,(.p (.int .i64 0))])];let y4:=I.inr Go.IntKind.i64 (I.add (Nat.cast i) 1);let y5:=I.few (I.add (I.len (α:=Str) l) (I.len (α:=Str) ([w]:List (Str)))) 100000000;let y6:=I.get (α:=Str) (I.app (α:=Str) l ([w]:List (Str))) ([]:Str) 2;let y7:=I.cut (α:=UInt8) s (Int.ofNat i) (I.add (Nat.cast i) 1);.br (I.ilt (Nat.cast i) (I.len (α:=UInt8) s)) (.need (I.inb (Nat.cast i) (I.len (α:=UInt8) s)) (.br (I.ieq (I.b2i (I.get (α:=UInt8) s 0 (Nat.cast i))) 32) (.need y5 (.need y4 (.need (A ⟨[(0,(.v (.one (.p (.str s))))),(2,(.v (.one (.ptr 0 0)))),(3,(.v (.one (.p (.int .i64 0))))),(4,(.v (.one (.row 1)))),(5,(.v (.one (.p (.str ([]:Str)))))),(6,(.v (.one (.p (.int .i64 (I.add (Nat.cast i) 1))))))],[y3,(.row .str 9 (I.app (α:=Str) l ([w]:List (Str))))],82,none⟩) .qed))) (.need y4 (.need (I.cutb (Int.ofNat i) (I.add (Nat.cast i) 1) (I.len (α:=UInt8) s)) (.need (I.few (I.add (I.len (α:=UInt8) w) (I.len (α:=UInt8) y7)) 1000000000) (.need y4 (.need (A ⟨[(0,(.v (.one (.p (.str s))))),(2,(.v (.one (.ptr 0 0)))),(3,(.v (.one (.p (.int .i64 0))))),(4,(.v (.one (.row 1)))),(5,(.v (.one (.p (.str (I.app (α:=UInt8) w y7)))))),(6,(.v (.one (.p (.int .i64 (I.add (Nat.cast i) 1))))))],[y3,(.row .str 9 l)],82,none⟩) .qed))))))) (.need y5 (.br (I.bnot (I.ieq y0 3)) (.fin (.ret (.tup [(.agg [(.p (.str ([]:Str))),(.p (.str ([]:Str))),(.p (.int .i64 0)),.nilS,(.p (.int .i64 0))]),(.one (.p (.int .i64 5)))])) []) (.need (I.inb 0 y0) (.need (I.inb 0 y0) (.need (I.hid (α:=(Prop)) (LE.le (List.length y2) 1000000)) (.br (I.bnot (I.hid (α:=Bool) (yF y2))) (.fin (.ret (.tup [(.agg [(.p (.str ([]:Str))),(.p (.str ([]:Str))),(.p (.int .i64 0)),.nilS,(.p (.int .i64 0))]),(.one (.p (.int .i64 6)))])) []) (.need (I.inb 1 y0) (.need (I.inb 1 y0) (.br (I.ieq (I.len (α:=UInt8) y1) 0) (.fin (.ret (.tup [(.agg [(.p (.str ([]:Str))),(.p (.str ([]:Str))),(.p (.int .i64 0)),.nilS,(.p (.int .i64 0))]),(.one (.p (.int .i64 5)))])) []) (.need (I.inb 1 y0) (.need (I.inb 1 y0) (.need (I.inb 0 (I.len (α:=UInt8) y1)) (.br (I.bnot (I.ieq (I.b2i (I.get (α:=UInt8) y1 0 0)) 47)) (.fin (.ret (.tup [(.agg [(.p (.str ([]:Str))),(.p (.str ([]:Str))),(.p (.int .i64 0)),.nilS,(.p (.int .i64 0))]),(.one (.p (.int .i64 5)))])) []) (.need (I.inb 1 y0) (.need (I.inb 1 y0) (.need (I.hid (α:=(Prop)) (And (LE.le (List.length y1) 1000000) (LE.le (List.length ([9]:Str)) 1000000))) (.br (I.ile 0 (I.hid (α:=Int) (yj ([9]:Str) y1 (0:Int)))) (.fin (.ret (.tup [(.agg [(.p (.str ([]:Str))),(.p (.str ([]:Str))),(.p (.int .i64 0)),.nilS,(.p (.int .i64 0))]),(.one (.p (.int .i64 5)))])) []) (.need (I.inb 0 y0) (.need (I.inb 0 y0) (.need (I.inb 1 y0) (.need (I.inb 1 y0) (.need (I.inb 2 y0) (.need (I.inb 2 y0) (.br (I.seq y6 ([72,84,84,80,47,49,46,49]:Str)) (.fin (.ret (.tup [(.agg [(.p (.str y2)),(.p (.str y1)),(.p (.int .i64 1)),.nilS,(.p (.int .i64 0))]),(.one (.p (.int .i64 0)))])) []) (.need (I.inb 2 y0) (.need (I.inb 2 y0) (.br (I.bnot (I.seq y6 ([72,84,84,80,47,49,46,48]:Str))) (.fin (.ret (.tup [(.agg [(.p (.str ([]:Str))),(.p (.str ([]:Str))),(.p (.int .i64 0)),.nilS,(.p (.int .i64 0))]),(.one (.p (.int .i64 11)))])) []) (.fin (.ret (.tup [(.agg [(.p (.str y2)),(.p (.str y1)),(.p (.int .i64 0)),.nilS,(.p (.int .i64 0))]),(.one (.p (.int .i64 0)))])) []))))))))))))))))))))))))))))) (by kernel_rfl) ?_
  simp only [zy]
  subst hI
  simp only [nrmA,nrmB,nrlB,reduceCtorEq]
  by_cases hlt:i<s.length
  · have hd:s.drop i=s.getD i 0::s.drop (i+1):=by rw [List.drop_eq_getElem_cons hlt];simp [hlt]
    have htk:(s.drop i).take ((i:Int)+1 - i).toNat=[s.getD i 0]:=by rw [hd,show((i:Int)+1 - i).toNat=1 by omega];rfl
    have htk2:(s.drop i).take (((i:Int)+1).toNat - i)=[s.getD i 0]:=by rw [hd,show((i:Int)+1).toNat - i=1 by omega];rfl
    rw [hd] at h5
    rw [htk2]
    generalize s.getD i 0=c at *
    rw [spl] at h5
    have hu:(c.toNat:Int)=32↔c=32:=⟨fun h=>UInt8.toNat_inj.1 (by rw [show(32:UInt8).toNat=32 from rfl];omega),fun h=>by rw [h];rfl⟩
    have hg1:c=32→_:=fun h=>hA (i+1,l++[w],[]) ⟨by simp only;omega,by simp;omega,by
      intro x hx
      rcases List.mem_append.1 hx with hx|hx
      · exact h3 x hx
      · rw [List.mem_singleton.1 hx];omega,Nat.zero_le _,by simp only;rw [if_pos h] at h5;exact h5⟩ (by simp only;omega)
    have hg2: ¬ c=32→_:=fun h=>hA (i+1,l,w++[c]) ⟨by simp only;omega,by simp only;omega,h3,by simp;omega,by simp only;rw [if_neg h] at h5;exact h5⟩ (by simp only;omega)
    (repeat' (first|refine And.intro ?_ ?_|intro _))<;>first|omega|exact True.intro|exact False.elim ‹False›|skip
    all_goals first
      |omega
      |(simp only [List.length_cons,List.length_nil];omega)
      |exact hg1 (hu.1 ‹_›)
      |exact hg2 (fun h=>‹¬ (c.toNat:Int)=32› (hu.2 h))
  · rw [List.drop_of_length_le (by omega),spl] at h5
    have hlw:l.length+[w].length≤100000000:=by simp;omega
    have hv: ∀ x ∈ zK s,x.length≤1000000:=hsl.2 (fun x h=>by cases h) (by simpa using hneed)
    rw [h5]
    unfold firM at hr
    clear hsl h5 hA
    generalize zK s=V at *
    rcases V with _|⟨a,_|⟨b,_|⟨c,_|⟨d,e⟩⟩⟩⟩
    all_goals simp only [List.length_cons,List.length_nil,List.getD_cons_zero,List.getD_cons_succ,List.mem_cons,List.not_mem_nil,or_false,forall_eq_or_imp,forall_eq] at hr hv ⊢
    · (repeat' (first|refine And.intro ?_ ?_|intro _))<;>first|omega|exact True.intro|exact False.elim ‹False›|skip
      all_goals first|omega|exact hlw|(subst hr;rfl)|trace_state
    · (repeat' (first|refine And.intro ?_ ?_|intro _))<;>first|omega|exact True.intro|exact False.elim ‹False›|skip
      all_goals first|omega|exact hlw|(subst hr;rfl)|trace_state
    · (repeat' (first|refine And.intro ?_ ?_|intro _))<;>first|omega|exact True.intro|exact False.elim ‹False›|skip
      all_goals first|omega|exact hlw|(subst hr;rfl)|trace_state
    · obtain ⟨v1,v2,v3⟩:=hv
      rw [show([a,b,c].getD (Int.toNat 1) []:Str)=b from rfl,show([a,b,c].getD (Int.toNat 2) []:Str)=c from rfl]
      have hr :(if yF a=false then(hd0,(6:Int)) else if((b.length:Nat):Int)=0 then(hd0,5) else if((b.getD 0 0).toNat:Int)≠47 then(hd0,5) else if 0≤yj [9] b 0 then(hd0,5) else if c=[72,84,84,80,47,49,46,49] then(⟨a,b,1,[],0⟩,0) else if c=[72,84,84,80,47,49,46,48] then(⟨a,b,0,[],0⟩,0) else(hd0,11))=r:=by
        rw [← hr]
        by_cases ht:yF a=false
        · rw [if_pos ht,if_pos ht]
        rw [if_neg ht,if_neg ht]
        have h9:0≤yj [9] b 0↔b.contains 9=true:=by
          rw [vz,Lib.contains_iff_indexByte]
          have:=yN b 9
          split
          · rename_i h;rw [h];simp
          · rw [decide_eq_true_iff];omega
        rcases b with _|⟨x,b⟩
        · rw [if_pos (show(([]:Str).length:Int)=0 from rfl),if_pos (.inl (by simp))]
        · rw [if_neg (by rw [List.length_cons];omega)]
          have hx:(((x::b).getD 0 0).toNat:Int)≠47↔(x::b).head?≠some 47:=by
            simp only [List.getD_cons_zero,List.head?_cons,ne_eq,Option.some.injEq]
            rw [not_congr]
            exact⟨fun h=>UInt8.toNat_inj.1 (by rw [show(47:UInt8).toNat=47 from rfl];omega),fun h=>by rw [h];rfl⟩
          by_cases h1:(x::b).head?≠some 47
          · rw [if_pos (hx.2 h1),if_pos (.inl h1)]
          · rw [if_neg (fun h=>h1 (hx.1 h))]
            by_cases h2:0≤yj [9] (x::b) 0
            · rw [if_pos h2,if_pos (.inr (h9.1 h2))]
            · rw [if_neg h2,if_neg (show ¬ ((x::b).head?≠some 47∨(x::b).contains 9=true) from fun h=>h.elim h1 (fun h=>h2 (h9.2 h)))]
              rfl
      (repeat' (first|refine And.intro ?_ ?_|intro _))<;>first|omega|exact True.intro|exact False.elim ‹False›|skip
      all_goals first|omega|exact hlw|((repeat(first|rewrite [if_pos (by first|omega|assumption|(simp only [*,or_self,or_true,true_or,or_false,false_or,not_true_eq_false,not_false_eq_true,Bool.false_eq_true,Bool.true_eq_false,and_self,and_true,true_and];done)|(simp only [*];omega)|(simp [*];done)|(simp [*];omega))] at hr|rewrite [if_neg (by first|omega|assumption|(simp only [*,or_self,or_true,true_or,or_false,false_or,not_true_eq_false,not_false_eq_true,Bool.false_eq_true,Bool.true_eq_false,and_self,and_true,true_and];done)|(simp only [*];omega)|(simp [*];done)|(simp [*];omega))] at hr));subst hr;rfl)|trace_state
    · (repeat' (first|refine And.intro ?_ ?_|intro _))<;>first|omega|exact True.intro|exact False.elim ‹False›|skip
      all_goals first|omega|exact hlw|(subst hr;rfl)|trace_state
def uy (I:Alg) (args:List D) (hp:List HO):Option CT:=match args,hp with
  |[.v (.one (.p (.str s)))],[]=>(fun(s:Str)=>(some (.one ⟨I.hid (s.length≤1000000),(.ret (.tup [(.agg [(.p (.str (I.hid ((firM s).1.method)))),(.p (.str (I.hid ((firM s).1.target)))),(.p (.int .i64 (I.hid ((firM s).1.minor)))),.nilS,(.p (.int .i64 (I.hid ((firM s).1.length))))]),(.one (.p (.int .i64 (I.hid ((firM s).2)))))])),[]⟩):Option CT)) s
  |_,_=>none
theorem XP:zD Tryz.prog 25 (uy alg):=by
  intro args hp r h
  unfold uy at h
  split at h
  · cases h;exact fun hn=>zeL _ hn
  · cases h
def qy:Know Tryz.prog:=⟨25,uy,XP⟩
def qx:Know Tryz.prog:=⟨25,fun I=>zH I (uy I),zf XP⟩
end Go.Proofs.YtmibhbdfigpkmaaGreatDoor
namespace Go.Proofs.YtmibhbdfigpkmaaGreatDoor
open Go Go.Sep Go.Ab
set_option maxRecDepth 100000
def uN (mi:Int) (f:List Fld):Int × Int:=if zbU mi f=true then(0,13) else lenM mi f
theorem zik (h:Hd):lenH h=uN h.minor h.fields:=rfl
theorem zgv (m t:Str) (mi:Int) (f:List Fld) (le:Int) (hneed:FsOk f):Spc Tryz.prog 27 [.v (.agg [(.p (.str m)),(.p (.str t)),(.p (.int .i64 mi)),(.p (.list .fld f)),(.p (.int .i64 le))])] [] (.ret (.tup [(.one (.p (.int .i64 ((uN mi f).1)))),(.one (.p (.int .i64 ((uN mi f).2))))])) []:=by
  obtain⟨hf1,hf2⟩:=hneed
  generalize hr:uN mi f=r
  obtain⟨rn,rc⟩:=r
  refine spcG zi mixed Tryz.func27 (by kernel_rfl) { keep:=some [0,1,2,3,5,6,7,8,9,10,11]} [qJ,qI,vH,vG,zc9,zc8,VH,VG] (by kernel_rfl) ?_
  intro I X hI hX
  refine zh (let y0:=I.hid (α:=(List (Str))) (valsF f ([116,114,97,110,115,102,101,114,45,101,110,99,111,100,105,110,103]:Str));let y1:=([99,111,110,116,101,110,116,45,108,101,110,103,116,104]:Str);let y2:=I.hid (α:=(Prop)) (And (LE.le (List.length f) 1000) (And (LE.le (List.length ([116,114,97,110,115,102,101,114,45,101,110,99,111,100,105,110,103]:Str)) 1000000) (∀ (f_1:Fld),f_1 ∈ f→List.length f_1.name≤1000000∧List.length f_1.value≤1000000)));let y3:=I.hid (α:=Int) (Prod.snd (oneF (valsF f ([104,111,115,116]:Str))));let y4:=I.hid (α:=(Prop)) (And (LE.le (List.length f) 1000) (And (LE.le (List.length y1) 1000000) (∀ (f_1:Fld),f_1 ∈ f→List.length f_1.name≤1000000∧List.length f_1.value≤1000000)));let y5:=I.bnot (I.seq (I.hid (α:=Str) (lowS (I.get (α:=Str) y0 ([]:Str) 0))) ([99,104,117,110,107,101,100]:Str));let y6:=I.hid (α:=(List (Str))) (valsF f y1);let y7:HO:=.obj 25 [(.p (.str m)),(.p (.str t)),(.p (.int .i64 mi)),(.p (.list .fld f)),(.p (.int .i64 le))];let y8:=I.hid (α:=(Prop)) (LE.le (List.length (I.get (α:=Str) y0 ([]:Str) 0)) 1000000);let y9:=I.bnot (I.ieq (I.len (α:=Str) y0) 1);.need (I.hid (α:=(Prop)) (And (LE.le (List.length f) 1000) (And (LE.le (List.length ([104,111,115,116]:Str)) 1000000) (∀ (f_1:Fld),f_1 ∈ f→List.length f_1.name≤1000000∧List.length f_1.value≤1000000)))) (.br (I.ieq y3 9) (.fin (.ret (.tup [(.one (.p (.int .i64 0))),(.one (.p (.int .i64 13)))])) []) (.br (I.ieq y3 10) (.br (I.ieq mi 1) (.fin (.ret (.tup [(.one (.p (.int .i64 0))),(.one (.p (.int .i64 13)))])) []) (.need y4 (.need y2 (.br (I.ilt 0 (I.len (α:=Str) y0)) (.br (I.ilt 0 (I.len (α:=Str) y6)) (.fin (.ret (.tup [(.one (.p (.int .i64 0))),(.one (.p (.int .i64 12)))])) []) (.br (I.ieq mi 0) (.fin (.ret (.tup [(.one (.p (.int .i64 0))),(.one (.p (.int .i64 12)))])) []) (.br y9 (.fin (.ret (.tup [(.one (.p (.int .i64 0))),(.one (.p (.int .i64 11)))])) []) (.need (I.inb 0 (I.len (α:=Str) y0)) (.need (I.inb 0 (I.len (α:=Str) y0)) (.need y8 (.br y5 (.fin (.ret (.tup [(.one (.p (.int .i64 0))),(.one (.p (.int .i64 11)))])) []) (.fin (.ret (.tup [(.one (.p (.int .i64 (Neg.neg (1:Int))))),(.one (.p (.int .i64 0)))])) [])))))))) (.code 0 [1,1,1,1,1,1,0,1,0] ⟨[(9,(.v (.one (.p (.int .i64 0))))),(8,(.v (.one (.p (.int .i64 0))))),(7,(.v (.one (.row 2)))),(6,(.v (.one (.row 1)))),(5,(.v (.one (.p (.int .i64 y3))))),(3,(.v (.one (.p (.int .i64 0))))),(2,(.v (.one (.p (.int .i64 0))))),(1,(.v (.one (.ptr 0 0)))),(0,(.v (.agg [(.p (.str m)),(.p (.str t)),(.p (.int .i64 mi)),(.p (.list .fld f)),(.p (.int .i64 le))])))],[y7,(.row .str 9 y6),(.row .str 9 y0)],84,none⟩))))) (.need y4 (.need y2 (.br (I.ilt 0 (I.len (α:=Str) y0)) (.br (I.ilt 0 (I.len (α:=Str) y6)) (.fin (.ret (.tup [(.one (.p (.int .i64 0))),(.one (.p (.int .i64 12)))])) []) (.br (I.ieq mi 0) (.fin (.ret (.tup [(.one (.p (.int .i64 0))),(.one (.p (.int .i64 12)))])) []) (.br y9 (.fin (.ret (.tup [(.one (.p (.int .i64 0))),(.one (.p (.int .i64 11)))])) []) (.need (I.inb 0 (I.len (α:=Str) y0)) (.need (I.inb 0 (I.len (α:=Str) y0)) (.need y8 (.br y5 (.fin (.ret (.tup [(.one (.p (.int .i64 0))),(.one (.p (.int .i64 11)))])) []) (.fin (.ret (.tup [(.one (.p (.int .i64 (Neg.neg (1:Int))))),(.one (.p (.int .i64 0)))])) [])))))))) (.code 0 [1,1,1,1,1,1,0,1,0] ⟨[(9,(.v (.one (.p (.int .i64 0))))),(8,(.v (.one (.p (.int .i64 0))))),(7,(.v (.one (.row 2)))),(6,(.v (.one (.row 1)))),(5,(.v (.one (.p (.int .i64 y3))))),(3,(.v (.one (.p (.int .i64 0))))),(2,(.v (.one (.p (.int .i64 0))))),(1,(.v (.one (.ptr 0 0)))),(0,(.v (.agg [(.p (.str m)),(.p (.str t)),(.p (.int .i64 mi)),(.p (.list .fld f)),(.p (.int .i64 le))])))],[y7,(.row .str 9 y6),(.row .str 9 y0)],84,none⟩))))))) (by kernel_rfl) ?_
  simp only [zy]
  have hh: ∀ {α:Type} (x:α),I.hid x=x:=by subst hI;intros;rfl
  have hln: ∀ (l:List Str),I.len l=(l.length:Int):=by subst hI;intros;rfl
  simp only [hh,hln]
  unfold uN zbU lenM at hr
  rw [show rW=[116,114,97,110,115,102,101,114,45,101,110,99,111,100,105,110,103] from rfl,show wR=[99,111,110,116,101,110,116,45,108,101,110,103,116,104] from rfl,show wX=[104,111,115,116] from rfl] at hr
  have hL1:=wG f [99,111,110,116,101,110,116,45,108,101,110,103,116,104]
  have hT1:=wG f [116,114,97,110,115,102,101,114,45,101,110,99,111,100,105,110,103]
  have hT2: ∀ x ∈ valsF f [116,114,97,110,115,102,101,114,45,101,110,99,111,100,105,110,103],x.length≤1000000:=by
    intro x hx
    unfold valsF at hx
    rw [List.mem_map] at hx
    obtain⟨y,hy,rfl⟩:=hx
    exact(hf2 y (List.mem_filter.1 hy).1).2
  generalize valsF f [99,111,110,116,101,110,116,45,108,101,110,103,116,104]=L at *
  generalize valsF f [116,114,97,110,115,102,101,114,45,101,110,99,111,100,105,110,103]=T at *
  generalize(oneF (valsF f [104,111,115,116])).2=hc at *
  have keyL: ∀ (st:St),(if(sizM (L.getD 0 []) 0 L).2≠0 then(0,(sizM (L.getD 0 []) 0 L).2) else if 4000<(sizM (L.getD 0 []) 0 L).1 then(0,4) else((sizM (L.getD 0 []) 0 L).1,0))=(rn,rc)→cutM { keep:=some [0,1,2,3,5,6,7,8,9,10,11]} 0 [2,3,6,8,9] st=some ⟨[(2,.v (.one (.p (.int .i64 0)))),(3,.v (.one (.p (.int .i64 0)))),(6,.v (.one (.row 0))),(8,.v (.one (.p (.int .i64 0)))),(9,.v (.one (.p (.int .i64 0))))],[.row .str 9 L],84,none⟩→Ok Tryz.prog X (fun o h=>o=(.ret (.tup [(.one (.p (.int .i64 rn))),(.one (.p (.int .i64 rc)))]))∧h=[]) (leaf I tab { keep:=some [0,1,2,3,5,6,7,8,9,10,11]} [⟨Uw Tryz.f27,finK I tab { keep:=some [0,1,2,3,5,6,7,8,9,10,11]} 0 Tryz.f27⟩] 0 [1,1,1,1,1,1,0,1,0] st):=by
    intro st hm hst
    refine zG hI zi mixed [qJ,qI,vH,vG,zc9,zc8,VH,VG] hX [2,3,6,8,9] (fun(g:Nat × Int)=>match g with|(i,n)=>i≤L.length∧(if(sizM (L.getD 0 []) n (L.drop i)).2≠0 then(0,(sizM (L.getD 0 []) n (L.drop i)).2) else if 4000<(sizM (L.getD 0 []) n (L.drop i)).1 then(0,4) else((sizM (L.getD 0 []) n (L.drop i)).1,0))=(rn,rc)) (fun(g:Nat × Int)=>match g with|(i,n)=>⟨[(2,.v (.one (.p (.int .i64 0)))),(3,.v (.one (.p (.int .i64 0)))),(6,.v (.one (.row 0))),(8,.v (.one (.p (.int .i64 n)))),(9,.v (.one (.p (.int .i64 i))))],[.row .str 9 L],84,none⟩) (fun(g:Nat × Int)=>match g with|(i,n)=>L.length - i) (0,0) (by kernel_rfl) hst ?_ ?_
    · exact⟨Nat.zero_le _,hm⟩
    clear hm hst hr
    rintro⟨i,n⟩ ⟨h1,hm⟩ A hA
    simp only at hA
    refine zh (let y0:=I.inb (Nat.cast i) (I.len (α:=Str) L);let y1:=I.get (α:=Str) L ([]:Str) (Nat.cast i);.br (I.ilt (Nat.cast i) (I.len (α:=Str) L)) (.need y0 (.need y0 (.need (I.hid (α:=(Prop)) True) (.br (I.bnot (I.hid (α:=Bool) (Prod.snd (numA y1 (10:Int) (9:Int))))) (.fin (.ret (.tup [(.one (.p (.int .i64 0))),(.one (.p (.int .i64 7)))])) []) (.need y0 (.need y0 (.need (I.inb 0 (I.len (α:=Str) L)) (.need (I.inb 0 (I.len (α:=Str) L)) (.br (I.bnot (I.seq y1 (I.get (α:=Str) L ([]:Str) 0))) (.fin (.ret (.tup [(.one (.p (.int .i64 0))),(.one (.p (.int .i64 12)))])) []) (.need (I.inr Go.IntKind.i64 (I.add (Nat.cast i) 1)) (.need (A ⟨[(2,(.v (.one (.p (.int .i64 0))))),(3,(.v (.one (.p (.int .i64 0))))),(6,(.v (.one (.row 0)))),(8,(.v (.one (.p (.int .i64 (I.hid (α:=Int) (Prod.fst (numA y1 (10:Int) (9:Int))))))))),(9,(.v (.one (.p (.int .i64 (I.add (Nat.cast i) 1))))))],[(.row .str 9 L)],84,none⟩) .qed))))))))))) (.br (I.ilt 4000 n) (.fin (.ret (.tup [(.one (.p (.int .i64 0))),(.one (.p (.int .i64 4)))])) []) (.fin (.ret (.tup [(.one (.p (.int .i64 n))),(.one (.p (.int .i64 0)))])) []))) (by kernel_rfl) ?_
    simp only [zy]
    subst hI
    simp only [nrmA,nrmB]
    by_cases hi:i<L.length
    · rw [QT _ _ _ _ hi] at hm
      have hn:=ZG (L.getD i [])
      have hgo:=hA (i+1,(numA (L.getD i []) 10 9).1)
      generalize L.getD i []=x at *
      generalize L.getD 0 []=y at *
      generalize numA x 10 9=na at *
      obtain⟨na,nb⟩:=na
      simp only at hm hgo hn
      cases nb with
      | false=>
        rw [if_pos rfl] at hm
        simp only [ne_eq,Int.reduceEq,not_false_eq_true,if_true,Prod.mk.injEq] at hm
        obtain⟨rfl,rfl⟩:=hm
        (repeat' (first|refine And.intro ?_ ?_|intro _))<;>first|omega|exact True.intro|exact False.elim ‹False›|skip
        all_goals first|omega|rfl|contradiction|(simp_all;done)|trace_state
      | true=>
        simp only [Bool.true_eq_false,if_false] at hm
        by_cases hxy:x=y
        · simp only [if_neg (fun h:x≠y=>h hxy)] at hm
          have hg:=hgo ⟨by omega,hm⟩ (by omega)
          (repeat' (first|refine And.intro ?_ ?_|intro _))<;>first|omega|exact True.intro|exact False.elim ‹False›|skip
          all_goals first|omega|exact hg|contradiction|(exfalso;exact ‹¬ x=y› hxy)|trace_state
        · simp only [if_pos (show x≠y from hxy),ne_eq,Int.reduceEq,not_false_eq_true,if_true,Prod.mk.injEq] at hm
          obtain⟨rfl,rfl⟩:=hm
          (repeat' (first|refine And.intro ?_ ?_|intro _))<;>first|omega|exact True.intro|exact False.elim ‹False›|skip
          all_goals first|omega|rfl|contradiction|(exfalso;exact hxy ‹x=y›)|trace_state
    · rw [zcD _ _ _ _ hi] at hm
      simp only [ne_eq,not_true_eq_false,if_false] at hm
      by_cases h4:4000<n
      · rw [if_pos h4] at hm
        simp only [Prod.mk.injEq] at hm
        obtain⟨rfl,rfl⟩:=hm
        (repeat' (first|refine And.intro ?_ ?_|intro _))<;>first|omega|exact True.intro|exact False.elim ‹False›|skip
        all_goals first|omega|rfl|trace_state
      · rw [if_neg h4] at hm
        simp only [Prod.mk.injEq] at hm
        obtain⟨rfl,rfl⟩:=hm
        (repeat' (first|refine And.intro ?_ ?_|intro _))<;>first|omega|exact True.intro|exact False.elim ‹False›|skip
        all_goals first|omega|rfl|trace_state
  subst hI
  have hT0:T.length=0↔T=[]:=List.length_eq_zero_iff
  have hLz:L.length=0↔L=[]:=List.length_eq_zero_iff
  have hg0:0<T.length→(T.getD 0 []).length≤1000000:=fun h=>hT2 _ (by rw [show T.getD 0 []=T[0] by simp [h]];exact List.getElem_mem h)
  have hr:(if hc=9∨hc=10∧mi=1 then((0:Int),(13:Int)) else if 0<(T.length:Int) then(if 0<(L.length:Int)∨mi=0 then(0,12) else if ¬ (T.length:Int)=1 then(0,11) else if ¬ lowS (T.getD 0 [])=[99,104,117,110,107,101,100] then(0,11) else(-1,0)) else(if(sizM (L.getD 0 []) 0 L).2≠0 then(0,(sizM (L.getD 0 []) 0 L).2) else if 4000<(sizM (L.getD 0 []) 0 L).1 then(0,4) else((sizM (L.getD 0 []) 0 L).1,0)))=(rn,rc):=by
    have e1:((decide (hc=9)||(decide (hc=10)&&decide (mi=1)))=true)=(hc=9∨hc=10∧mi=1):=by simp
    have e2:(T≠[])=(0<(T.length:Int)):=by rw [eq_iff_iff];exact⟨fun h=>Int.natCast_pos.2 (Nat.pos_of_ne_zero fun k=>h (hT0.1 k)),fun h k=>by rw [k] at h;simp at h⟩
    have e3:(L≠[])=(0<(L.length:Int)):=by rw [eq_iff_iff];exact⟨fun h=>Int.natCast_pos.2 (Nat.pos_of_ne_zero fun k=>h (hLz.1 k)),fun h k=>by rw [k] at h;simp at h⟩
    simp only [e1,e2,e3] at hr
    rw [← hr]
    by_cases c2:0<(T.length:Int)
    · have e4:(1<T.length∨lowS (T.getD 0 [])≠YN)=(¬ (T.length:Int)=1∨¬ lowS (T.getD 0 [])=[99,104,117,110,107,101,100]):=by
        rw [eq_iff_iff]
        exact⟨fun h=>h.imp_left fun k=>by omega,fun h=>h.imp_left fun k=>by omega⟩
      simp only [e4]
      by_cases c4:(T.length:Int)=1
      · by_cases c5:lowS (T.getD 0 [])=[99,104,117,110,107,101,100]<;>simp [c4,c5]
      · simp [c4]
    · rw [if_neg c2,if_neg c2]
  simp only [nrmA,nrmB]
  clear hT0 hLz hT2
  (repeat' (first|refine And.intro ?_ ?_|intro _))<;>first|omega|exact True.intro|exact False.elim ‹False›|skip
  all_goals first
    |omega
    |((with_reducible show Ok _ _ _ _);refine keyL _ ?_ (by kernel_rfl);((repeat(first|rewrite [if_pos (by first|omega|assumption|(simp only [*,or_self,or_true,true_or,or_false,false_or,not_true_eq_false,not_false_eq_true,Bool.false_eq_true,Bool.true_eq_false,and_self,and_true,true_and];done)|(simp only [*];omega)|(simp [*];done)|(simp [*];omega))] at hr|rewrite [if_neg (by first|omega|assumption|(simp only [*,or_self,or_true,true_or,or_false,false_or,not_true_eq_false,not_false_eq_true,Bool.false_eq_true,Bool.true_eq_false,and_self,and_true,true_and];done)|(simp only [*];omega)|(simp [*];done)|(simp [*];omega))] at hr));exact hr))
    |exact⟨hf1,by decide,hf2⟩
    |exact hf1
    |(exact(hf2 _ ‹_›).1)
    |(exact(hf2 _ ‹_›).2)
    |decide
    |exact hg0 (by omega)
    |((repeat(first|rewrite [if_pos (by first|omega|assumption|(simp only [*,or_self,or_true,true_or,or_false,false_or,not_true_eq_false,not_false_eq_true,Bool.false_eq_true,Bool.true_eq_false,and_self,and_true,true_and];done)|(simp only [*];omega)|(simp [*];done)|(simp [*];omega))] at hr|rewrite [if_neg (by first|omega|assumption|(simp only [*,or_self,or_true,true_or,or_false,false_or,not_true_eq_false,not_false_eq_true,Bool.false_eq_true,Bool.true_eq_false,and_self,and_true,true_and];done)|(simp only [*];omega)|(simp [*];done)|(simp [*];omega))] at hr));simp only [Prod.mk.injEq] at hr;obtain⟨rfl,rfl⟩:=hr;rfl)
def sU (I:Alg) (args:List D) (hp:List HO):Option CT:=match args,hp with
  |[.v (.agg [(.p (.str m)),(.p (.str t)),(.p (.int .i64 mi)),(.p (.list .fld f)),(.p (.int .i64 le))])],[]=>(fun(m t:Str) (mi:Int) (f:List Fld) (le:Int)=>(some (.one ⟨I.hid (FsOk f),(.ret (.tup [(.one (.p (.int .i64 (I.hid ((uN mi f).1))))),(.one (.p (.int .i64 (I.hid ((uN mi f).2)))))])),[]⟩):Option CT)) m t mi f le
  |_,_=>none
theorem V3:zD Tryz.prog 27 (sU alg):=by
  intro args hp r h
  unfold sU at h
  split at h
  · cases h;exact fun hn=>zgv _ _ _ _ _ hn
  · cases h
def ZM:Know Tryz.prog:=⟨27,sU,V3⟩
def ZL:Know Tryz.prog:=⟨27,fun I=>zH I (sU I),zf V3⟩
end Go.Proofs.YtmibhbdfigpkmaaGreatDoor
namespace Go.Proofs.YtmibhbdfigpkmaaGreatDoor
open Go Go.Sep Go.Ab
set_option maxRecDepth 100000
def bodE (b:Str):List Evt:=if b=[] then [] else [evB b]
def preG (x:List Evt) (p:List Evt × Bool):List Evt × Bool:=(x++p.1,p.2)
def reqG:Nat→Option Hd→Str→List Evt × Bool
  |0,_,_=>([],false)
  | f+1,none,r=>match xE ln0 r with
    |.more _=>([],decide (r≠[]))
    |.bad e _=>([evF e],false)
    |.line t rest=>if t=[] then reqG f none rest else if(begM t).1≠0 then([evF (begM t).1],false) else reqG f (some (begM t).2) rest
  | f + 1,some h,r=>match xE ln0 r with
    |.more _=>([],true)
    |.bad e _=>([evF e],false)
    | .line t rest=>
      if t=[] then
        (if(lenH h).2≠0 then([evF (lenH h).2],false)
        else preG [evH { h with length:=(lenH h).1}]
          (if 0≤(lenH h).1 then
            (if(lenH h).1≤rest.length then preG (bodE (rest.take (lenH h).1.toNat)++[evE]) (reqG f none (rest.drop (lenH h).1.toNat)) else(bodE rest,true))
          else match zS rest with
            |.more o _=>(bodE o,true)
            |.bad o e _=>(bodE o++[evF e],false)
            |.over o rest2=>preG (bodE o++[evE]) (reqG f none rest2)))
      else if h.fields.length=16 then([evF 8],false)
      else if(zM t).2≠0 then([evF (zM t).2],false)
      else reqG f (some { h with fields:=h.fields++[(zM t).1]}) rest
def YG (l:List Evt):Bool:=match l.getLast? with|some e=>decide (e.kind=4)|none=>false
def N2 (l:List Evt):Prop:=∀ z x,l=z++[x]→x.kind≠2
theorem zkI:N2 []:=fun z x h=>by simp at h
theorem zgn {l:List Evt} {e:Evt} (h:e.kind≠2):N2 (l++[e]):=fun z x k=>by
  have:=(List.append_inj' k rfl).2
  simp only [List.cons.injEq,and_true] at this
  rw [← this];exact h
theorem zil {e:Evt} (h:e.kind≠2) (o:List Evt):vT o e=o++[e]:=by
  rcases List.eq_nil_or_concat o with rfl|⟨z,x,rfl⟩
  · rfl
  · rw [List.concat_eq_append,yR,if_neg (fun k=>h k.1)]
theorem zdr (l:List Evt) (e:Evt):zF (l++[e])=vT (zF l) e:=by simp [zF,List.foldl_append]
theorem WL {e:Evt} (h:e.kind≠2) (o:List Evt):zF (o++[e])=zF o++[e]:=by rw [zdr,zil h]
def Bods (l:List Evt) (o:Str):Prop:=(∀ e ∈ l,∃ b,b≠[]∧e=evB b)∧(l.map fun e=>e.bytes).flatten=o
theorem YT:Bods [] []:=⟨(fun e h=>by cases h),rfl⟩
theorem zeE {o:List Evt} (hn:N2 (zF o)): ∀ (l:List Evt) (p:Str),Bods l p→zF (o++l)=zF o++bodE p:=by
  suffices h: ∀ (l m:List Evt) (a:Str),zF (o++m)=zF o++bodE a→(∀ e ∈ l,∃ b,b≠[]∧e=evB b)→zF (o++m++l)=zF o++bodE (a++(l.map fun e=>e.bytes).flatten) by
    intro l p hb
    have:=h l [] [] (by simp [bodE]) hb.1
    rw [List.append_nil,List.nil_append,hb.2] at this
    exact this
  intro l
  induction l with
  |nil=>intro m a h _;simpa using h
  | cons e l ih=>
    intro m a h hl
    obtain⟨b,hb,rfl⟩:=hl e (List.mem_cons_self ..)
    have hs:zF (o++(m++[evB b]))=zF o++bodE (a++b):=by
      rw [← List.append_assoc,zdr,h]
      unfold bodE
      rw [if_neg (show ¬ a++b=[] by simp [hb])]
      by_cases ha:a=[]
      · subst ha
        rw [if_pos rfl,List.append_nil,List.nil_append]
        rcases List.eq_nil_or_concat (zF o) with h0|⟨z,x,h0⟩
        · rw [h0];rfl
        · rw [List.concat_eq_append] at h0
          rw [h0,yR,if_neg (fun k=>hn z x h0 k.2)]
      · rw [if_neg ha,yR,if_pos ⟨rfl,rfl⟩];rfl
    have:=ih (m++[evB b]) (a++b) hs (fun x hx=>hl x (List.mem_cons_of_mem _ hx))
    rw [show o++m++evB b::l=o++(m++[evB b])++l by simp,this]
    simp [evB]
theorem qM {q:Rq} (h:q.pos=4): ∀ r:Str,xC q r=q
  |[]=>rfl
  | c::r=>by
    have:rqF q c=q:=by unfold rqF;rw [if_neg (by omega),if_neg (by omega),if_neg (by omega)]
    show xC (rqF q c) r=q
    rw [this];exact qM h r
theorem Y9 {q:Rq} (hp:q.pos=0∨q.pos=1): ∀ (r:Str) (l:Ln),l.code=0→match xE l r with
    |.more s=>xC { q with ln:=l} r= { q with ln:=s}
    |.bad e _=>∃ l',xC { q with ln:=l} r=yc { q with ln:=l'} e
    |.line t rest=>xC { q with ln:=l} r=(if(zI { q with ln:=ln0} t).2≠0 then yc (zI { q with ln:=ln0} t).1 (zI { q with ln:=ln0} t).2 else xC (zI { q with ln:=ln0} t).1 rest)
  |[],l,hl=>rfl
  | c ::r,l,hl=>by
    have e0:rqF { q with ln:=l} c=(if(lnF l c).2.2.2≠0 then yc { q with ln:=(lnF l c).1} (lnF l c).2.2.2
      else if(lnF l c).2.2.1=true then
        (if(zI { q with ln:=(lnF l c).1} (lnF l c).2.1).2≠0 then yc (zI { q with ln:=(lnF l c).1} (lnF l c).2.1).1 (zI { q with ln:=(lnF l c).1} (lnF l c).2.1).2
        else(zI { q with ln:=(lnF l c).1} (lnF l c).2.1).1)
      else { q with ln:=(lnF l c).1}):=by
      unfold rqF
      rw [if_neg (show ¬ q.pos=2 by omega),if_neg (show ¬ q.pos=3 by omega),if_pos (show q.pos=0∨q.pos=1 from hp)]
    have e1:xC { q with ln:=l} (c::r)=xC (rqF { q with ln:=l} c) r:=rfl
    rw [e1,e0,xE]
    by_cases h1:(lnF l c).2.2.1=true
    · obtain⟨h2,h3⟩:=zdo h1 hl
      rw [if_pos h1,if_pos h1,if_neg (by simp [h2]),h3]
      simp only
      split
      · exact qM rfl r
      · rfl
    · rw [if_neg h1,if_neg h1]
      by_cases h2:(lnF l c).2.2.2=0
      · rw [if_neg (by simp [h2]),if_neg (by simp [h2])]
        exact Y9 hp r (lnF l c).1 (zdp h2)
      · rw [if_pos h2,if_pos h2]
        exact⟨(lnF l c).1,qM rfl r⟩
theorem UW: ∀ (r:Str) (q:Rq) (n:Nat),q.pos=2→q.left=((n+1:Nat):Int)→∃ l,Bods l (r.take (n+1))∧xC q r=if r.length<n+1 then { q with out:=q.out++l,left:=q.left - r.length} else xC (yU { q with out:=q.out++l,left:=0}) (r.drop (n+1))
  |[],q,n,hp,hl=>⟨[],YT,by rw [if_pos (by simp)];simp [xC]⟩
  | c :: r,q,n,hp,hl=>by
    have e0:rqF q c=if q.left - 1=0 then yU { q with out:=q.out++[evB [c]],left:=0} else { q with out:=q.out++[evB [c]],left:=q.left - 1}:=by
      unfold rqF
      rw [if_pos hp]
    have e1:xC q (c::r)=xC (rqF q c) r:=rfl
    rw [e1,e0]
    cases n with
    | zero=>
      refine⟨[evB [c]],⟨fun e h=>⟨[c],by simp,by simpa using h⟩,by simp [evB]⟩,?_⟩
      rw [if_pos (by omega),if_neg (by simp)]
      rfl
    | succ n=>
      rw [if_neg (by omega)]
      obtain⟨l,hb,hr⟩:=UW r { q with out:=q.out++[evB [c]],left:=q.left - 1} n hp (by show q.left - 1=_;omega)
      refine⟨evB [c]::l,⟨fun e h=> ?_,?_⟩,?_⟩
      · rcases List.mem_cons.1 h with rfl|h
        · exact⟨[c],by simp,rfl⟩
        · exact hb.1 e h
      · rw [List.map_cons,List.flatten_cons,hb.2];simp [evB]
      · rw [hr]
        simp only [List.length_cons,List.drop_succ_cons]
        by_cases h:r.length<n+1
        · rw [if_pos h,if_pos (by omega)]
          simp only [Rq.mk.injEq,true_and,List.append_assoc,List.cons_append,List.nil_append]
          refine⟨?_,trivial⟩
          omega
        · rw [if_neg h,if_neg (by omega)]
          simp only [List.append_assoc,List.cons_append,List.nil_append]
theorem SX: ∀ (r:Str) (q:Rq) (c:Ch),q.pos=3→q.ck=some c→match wS c r with
    |.more o _=>∃ k l,Bods l o∧xC q r= { q with ck:=some k,out:=q.out++l}
    |.bad o e _=>∃ k l,Bods l o∧xC q r=yc { q with ck:=some k,out:=q.out++l} e
    |.over o rest=>∃ k l,Bods l o∧xC q r=xC (yU { q with ck:=some k,out:=q.out++l}) rest
  |[],q,c,hp,hk=>⟨c,[],YT,by simp [xC,← hk]⟩
  | b :: r, q,c,hp,hk=>by
    have hc:ckOf q=c:=by unfold ckOf;rw [hk]
    have e0:rqF q b=(if(chF c b).2.2.2≠0 then yc { q with ck:=some (chF c b).1} (chF c b).2.2.2
      else if(chF c b).2.2.1=true then yU { q with ck:=some (chF c b).1,out:=if(chF c b).2.1≠[] then q.out++[evB (chF c b).2.1] else q.out}
      else { q with ck:=some (chF c b).1,out:=if(chF c b).2.1≠[] then q.out++[evB (chF c b).2.1] else q.out}):=by
      unfold rqF
      rw [if_neg (by omega),if_pos hp,hc]
    have e1:xC q (b::r)=xC (rqF q b) r:=rfl
    have hd:=zd1 (s:=c) (c:=b)
    rw [e1,e0,wS]
    by_cases h1:(chF c b).2.2.2=0
    · rw [if_neg (show ¬ (chF c b).2.2.2≠0 by simp [h1]),if_neg (show ¬ (chF c b).2.2.2≠0 by simp [h1])]
      by_cases h2:(chF c b).2.2.1=true
      · rw [if_pos h2,if_pos h2]
        have hz:=(hd.2.2.1 h2).2.1
        refine⟨(chF c b).1,[],YT,?_⟩
        rw [if_neg (show ¬ (chF c b).2.1≠[] by simp [hz]),List.append_nil]
      · rw [if_neg h2,if_neg h2]
        by_cases h3:(chF c b).2.1=[]
        · rw [if_neg (show ¬ (chF c b).2.1≠[] by simp [h3])]
          have ih:=SX r { q with ck:=some (chF c b).1,out:=q.out} (chF c b).1 hp rfl
          rw [h3,ChR.pre_nil]
          exact ih
        · rw [if_pos h3]
          have ih:=SX r { q with ck:=some (chF c b).1,out:=q.out++[evB (chF c b).2.1]} (chF c b).1 hp rfl
          have hb: ∀ l o,Bods l o→Bods (evB (chF c b).2.1::l) ((chF c b).2.1++o):=fun l o h=>⟨fun e he=>by
            rcases List.mem_cons.1 he with rfl|he
            · exact⟨_,h3,rfl⟩
            · exact h.1 e he,by rw [List.map_cons,List.flatten_cons,h.2];rfl⟩
          generalize wS (chF c b).1 r=x at ih
          cases x with
          |more o n=>obtain⟨k,l,g1,g2⟩:=ih;exact⟨k,_,hb l o g1,by rw [g2];simp⟩
          |bad o e rest=>obtain⟨k,l,g1,g2⟩:=ih;exact⟨k,_,hb l o g1,by rw [g2];simp⟩
          |over o rest=>obtain⟨k,l,g1,g2⟩:=ih;exact⟨k,_,hb l o g1,by rw [g2];simp⟩
    · rw [if_pos h1,if_pos h1]
      exact⟨(chF c b).1,[],YT,by rw [qM rfl];simp⟩
def CG (q q':Rq) (g:List Evt × Bool):Prop:=zF q'.out=zF q.out++g.1∧xZ q'=g.2∧decide (q'.pos=4)=YG g.1
theorem tN (l:List Evt) (e:Evt):YG (l++[e])=decide (e.kind=4):=by simp [YG]
theorem za9 {l:List Evt} {e:Evt} (h:e.kind≠4) (m:List Evt):YG (l++[e]++m)=YG m:=by
  rcases List.eq_nil_or_concat m with rfl|⟨z,x,rfl⟩
  · rw [List.append_nil,tN];simp [YG,h]
  · rw [List.concat_eq_append,← List.append_assoc,tN,tN]
theorem zlb {q q1 q':Rq} {x:List Evt} {e:Evt} {g:List Evt × Bool} (h:zF q1.out=zF q.out++(x++[e])) (k:e.kind≠4) (c:CG q1 q' g):CG q q' (preG (x++[e]) g):=by
  obtain⟨c1,c2,c3⟩:=c
  refine⟨by rw [c1,h];simp [preG],c2,?_⟩
  rw [c3]
  exact(za9 k g.1).symm
theorem rD {q q1:Rq} {e:Int} {x:List Evt} (h:zF q1.out=zF q.out++x):CG q (yc q1 e) (x++[evF e],false):=by
  refine⟨?_,?_,?_⟩
  · show zF (q1.out++[evF e])=_
    rw [WL (by simp [evF]),h];simp
  · simp [xZ,yc]
  · rw [tN];rfl
theorem zeQ (o:Str):YG (bodE o)=false:=by unfold bodE;split<;>rfl
theorem zg7 (x:List Evt) (o:Str) {e:Evt} (h:e.kind≠4):YG (x++[e]++bodE o)=false:=by rw [za9 h,zeQ]
theorem Yp (a b:List Evt) (g:List Evt × Bool):preG a (preG b g)=preG (a++b) g:=by simp [preG]
theorem zhg {q q1:Rq} {h:Hd} {o:Str} (hj:zF q1.out=zF q.out++([evH h]++bodE o)) (hp:q1.pos=2∨q1.pos=3):CG q q1 (preG [evH h] (bodE o,true)):=by
  refine⟨hj,?_,?_⟩
  · unfold xZ
    rw [decide_eq_true (show q1.pos≠4 by omega),decide_eq_true (show q1.pos≠0 by omega)];rfl
  · rw [decide_eq_false (by omega)]
    exact(zg7 [] o (e:=evH h) (by simp [evH])).symm
theorem Vz: ∀ (f:Nat) (r:Str) (q:Rq),r.length<f→q.ln=ln0→N2 (zF q.out)→(q.pos=0→CG q (xC q r) (reqG f none r))∧(q.pos=1→CG q (xC q r) (reqG f (some q.h) r))
  |0,r,q,h,_,_=>absurd h (Nat.not_lt_zero _)
  | f + 1, r, q,hf,hl,hn=>by
    have hq: { q with ln:=ln0}=q:=by rw [← hl]
    have hrest: ∀ {t rest:Str},xE ln0 r=.line t rest→rest.length<f:=fun h=>by
      obtain⟨n,-,h2,h3,h4⟩:=VZ h
      rw [h4,List.length_drop];omega
    refine⟨fun hp=> ?_,fun hp=> ?_⟩
    · have hr :=Y9 (q:=q) (.inl hp) r ln0 rfl
      rw [hq] at hr
      have hi:=RU r
      rw [reqG]
      cases hx:xE ln0 r with
      | more s=>
        rw [hx] at hr hi
        simp only at hr ⊢
        rw [hr]
        refine⟨by simp,?_,?_⟩
        · have:=hi.2.2
          simp only [xZ,hp]
          simp only [ne_eq,not_true_eq_false,or_false] at this
          by_cases hz:r=[]<;>simp_all
        · simp [hp,YG]
      | bad e rest=>
        rw [hx] at hr
        obtain⟨l',hr⟩:=hr
        rw [hr]
        exact rD (x:=[]) (by simp)
      | line t rest=>
        rw [hx] at hr
        simp only at hr ⊢
        rw [hr]
        have hrl:=hrest hx
        unfold zI
        simp only [hp,if_true]
        by_cases ht:t=[]
        · rw [if_pos ht,if_pos ht]
          simp only [ne_eq,not_true_eq_false,if_false]
          exact(Vz f rest q hrl hl hn).1 hp
        · rw [if_neg ht,if_neg ht]
          by_cases hb:(begM t).1=0
          · rw [if_pos hb,if_neg (show ¬ (begM t).1≠0 by simp [hb])]
            simp only [ne_eq,not_true_eq_false,if_false]
            exact(Vz f rest { q with h:=(begM t).2,pos:=1} hrl hl hn).2 rfl
          · rw [if_neg hb,if_pos hb]
            by_cases h11:(begM t).1=11
            · rw [if_pos h11,h11]
              exact rD (x:=[]) (by simp)
            · rw [if_neg h11]
              simp only [ne_eq,hb,not_false_eq_true,if_true]
              exact rD (x:=[]) (by simp)
    · have hr :=Y9 (q:=q) (.inr hp) r ln0 rfl
      rw [hq] at hr
      rw [reqG]
      cases hx:xE ln0 r with
      | more s=>
        rw [hx] at hr
        simp only at hr ⊢
        rw [hr]
        refine⟨by simp,?_,?_⟩
        · simp [xZ,hp]
        · simp [hp,YG]
      | bad e rest=>
        rw [hx] at hr
        obtain⟨l',hr⟩:=hr
        rw [hr]
        exact rD (x:=[]) (by simp)
      | line t rest=>
        rw [hx] at hr
        simp only at hr ⊢
        rw [hr]
        have hrl:=hrest hx
        unfold zI
        rw [if_neg (show ¬ q.pos=0 by omega)]
        by_cases ht:t=[]
        · rw [if_pos ht,if_pos ht]
          have hH: ∀ h:Hd,zF (q.out++[evH h])=zF q.out++[evH h]:=fun h=>WL (by simp [evH]) _
          have hN: ∀ h:Hd,N2 (zF (q.out++[evH h])):=fun h=>by rw [hH];exact zgn (by simp [evH])
          have hB: ∀ (h:Hd) (l:List Evt) (o:Str),Bods l o→zF (q.out++[evH h]++l)=zF q.out++([evH h]++bodE o):=fun h l o hb=>by
            rw [zeE (hN h) l o hb,hH];simp
          have hend: ∀ (Q:Rq) (r2:Str) (x:List Evt),Q.ln=ln0→r2.length<f→zF Q.out=zF q.out++x→CG q (xC (yU Q) r2) (preG (x++[evE]) (reqG f none r2)):=fun Q r2 x hQ h2 hx=>by
            have hj:zF (Q.out++[evE])=zF q.out++(x++[evE]):=by rw [WL (by simp [evE]),hx];simp
            exact zlb (q1:=yU Q) (e:=evE) hj (by simp [evE]) ((Vz f r2 (yU Q) h2 hQ (by show N2 (zF (Q.out++[evE]));rw [WL (by simp [evE])];exact zgn (by simp [evE]))).1 rfl)
          unfold yx lenH
          by_cases h1:zbU q.h.minor q.h.fields=true
          · rw [if_pos h1,if_pos h1]
            simp only [ne_eq,show ¬ (13:Int)=0 by decide,not_false_eq_true,if_true]
            exact rD (x:=[]) (by simp)
          rw [if_neg h1,if_neg h1]
          by_cases h2:(lenM q.h.minor q.h.fields).2≠0
          · rw [if_pos h2,if_pos h2,if_pos h2]
            exact rD (x:=[]) (by simp)
          rw [if_neg h2,if_neg h2]
          have hle:=RV q.h.minor q.h.fields
          generalize(lenM q.h.minor q.h.fields).1=n at *
          by_cases h3:n=0
          · subst h3
            rw [if_pos rfl]
            simp only [ne_eq,not_true_eq_false,if_false,Int.toNat_zero,List.take_zero,List.drop_zero]
            rw [if_pos (show(0:Int)≤0 by decide),if_pos (show(0:Int)≤(rest.length:Int) by omega),Yp,← List.append_assoc]
            have hb:=hB { q.h with length:=0} [] [] YT
            rw [List.append_nil] at hb
            exact hend _ rest _ hl hrl hb
          rw [if_neg h3]
          by_cases h4:0<n
          · rw [if_pos h4]
            simp only [ne_eq,not_true_eq_false,if_false]
            rw [if_pos (show 0≤n by omega)]
            obtain⟨l,hb,hd⟩:=UW rest ({ ln:=q.ln,pos:=2,h:= { method:=q.h.method,target:=q.h.target,minor:=q.h.minor,fields:=q.h.fields,length:=n},left:=n,ck:=q.ck,own:=false,out:=q.out++[evH { q.h with length:=n}]}:Rq) (n.toNat - 1) rfl (by show n=_;omega)
            rw [show n.toNat - 1+1=n.toNat by omega] at hb hd
            rw [hd]
            by_cases h5:rest.length<n.toNat
            · rw [if_pos h5,if_neg (by omega)]
              rw [List.take_of_length_le (by omega)] at hb
              exact zhg (hB _ l _ hb) (.inl rfl)
            · rw [if_neg h5,if_pos (by omega),Yp,← List.append_assoc]
              exact hend _ _ _ hl (by rw [List.length_drop];omega) (hB _ l _ hb)
          rw [if_neg h4]
          simp only [ne_eq,not_true_eq_false,if_false]
          rw [if_neg (show ¬ 0≤n by omega)]
          have hc:=SX rest ({ ln:=q.ln,pos:=3,h:= { method:=q.h.method,target:=q.h.target,minor:=q.h.minor,fields:=q.h.fields,length:=n},left:=q.left,ck:=some ch0,own:=false,out:=q.out++[evH { q.h with length:=n}]}:Rq) ch0 rfl rfl
          have hrc:=Y6 rest
          have hro: ∀ o rest2,wS ch0 rest=.over o rest2→rest2.length<rest.length:=fun o r2 h=>Z8 h
          rw [hrc] at hc hro
          cases hcr:zS rest with
          | more o k=>
            rw [hcr] at hc
            obtain⟨k,l,hb,hd⟩:=hc
            rw [hd]
            exact zhg (hB _ l _ hb) (.inr rfl)
          | bad o e r2=>
            rw [hcr] at hc
            obtain⟨k,l,hb,hd⟩:=hc
            rw [hd]
            simp only [preG]
            rw [← List.append_assoc]
            exact rD (hB _ l _ hb)
          | over o r2=>
            rw [hcr] at hc hro
            obtain⟨k,l,hb,hd⟩:=hc
            rw [hd]
            simp only
            rw [Yp,← List.append_assoc]
            exact hend _ r2 _ hl (by have:=hro o r2 rfl;omega) (hB _ l _ hb)
        · rw [if_neg ht,if_neg ht]
          by_cases h16:q.h.fields.length=16
          · rw [if_pos h16,if_pos h16]
            simp only [ne_eq,show ¬ (8:Int)=0 by decide,not_false_eq_true,if_true]
            exact rD (x:=[]) (by simp)
          · rw [if_neg h16,if_neg h16]
            by_cases hb:(zM t).2=0
            · rw [if_neg (show ¬ (zM t).2≠0 by simp [hb]),if_neg (show ¬ (zM t).2≠0 by simp [hb])]
              exact(Vz f rest { q with h:= { q.h with fields:=q.h.fields++[(zM t).1]}} hrl hl hn).2 hp
            · rw [if_pos hb,if_pos hb]
              exact rD (x:=[]) (by simp)
theorem zfW (b:Str):zF (yh rq0 b).out=(reqG (b.length+1) none b).1∧xZ (yh rq0 b)=(reqG (b.length+1) none b).2∧decide ((yh rq0 b).pos=4)=YG (reqG (b.length+1) none b).1:=by
  have h:=(Vz (b.length+1) b rq0 (Nat.lt_succ_self _) rfl zkI).1 rfl
  obtain⟨h1,h2,h3⟩:=h
  exact⟨h1,h2,h3⟩
end Go.Proofs.YtmibhbdfigpkmaaGreatDoor
namespace Go.Proofs.YtmibhbdfigpkmaaGreatDoor
open Go Go.Sep Go.Ab
set_option maxRecDepth 100000
theorem za4 {l m:List Fld} {i:Nat} (h1:i<l.length) (h2:i<m.length):(decide (l.drop i=m.drop i))=(decide (l.getD i ⟨[],[]⟩=m.getD i ⟨[],[]⟩)&&decide (l.drop (i+1)=m.drop (i+1))):=by
  have e1:l.getD i ⟨[],[]⟩=l[i]:=by simp [h1]
  have e2:m.getD i ⟨[],[]⟩=m[i]:=by simp [h2]
  rw [e1,e2,Bool.eq_iff_iff,Bool.and_eq_true,decide_eq_true_iff,decide_eq_true_iff,decide_eq_true_iff,List.drop_eq_getElem_cons h1,List.drop_eq_getElem_cons h2,List.cons.injEq]
theorem zjZ {x y:Fld} (h1:x.name=y.name) (h2:x.value=y.value):x=y:=by cases x;cases y;simp_all
theorem zkr (l m:List Fld) (hneed:l.length≤140737488355328∧m.length≤140737488355328):Spc Tryz.prog 57 [.v (.one (.p (.list .fld l))),.v (.one (.p (.list .fld m)))] [] (.ret (.v (.one (.p (.bool ((decide (l=m)))))))) []:=by
  obtain⟨hl,hm⟩:=hneed
  generalize hr:decide (l=m)=r
  refine spcG zi mixed Tryz.func57 (by kernel_rfl) { keep:=some [0,1,4,5]} [] (by kernel_rfl) ?_
  intro I X hI hX
  refine zh (.br (I.bnot (I.ieq (I.len (α:=Fld) l) (I.len (α:=Fld) m))) (.fin (.ret (.v (.one (.p (.bool Bool.false))))) []) (.code 0 [1,1,0,1,0] ⟨[(5,(.v (.one (.p (.int .i64 0))))),(4,(.v (.one (.p (.val (.bool .false)))))),(0,(.v (.one (.p (.list .fld l))))),(1,(.v (.one (.p (.list .fld m)))))],[],26,none⟩)) (by kernel_rfl) ?_
  simp only [zy]
  refine⟨fun c1=> ?_,fun c1=> ?_⟩
  · subst hI
    simp only [nrmA,nrmB] at c1
    simp only [nrmA,nrmB]
    rw [← hr]
    exact(decide_eq_false fun e=>c1 (by rw [e])).symm
  have hlm:l.length=m.length:=by
    subst hI
    simp only [nrmA,nrmB] at c1
    omega
  refine zG hI zi mixed [] hX [0,1,5] (fun(i:Nat)=>i≤l.length∧r=decide (l.drop i=m.drop i)) (fun(i:Nat)=>⟨[(0,.v (.one (.p (.list .fld l)))),(1,.v (.one (.p (.list .fld m)))),(5,.v (.one (.p (.int .i64 i))))],[],26,none⟩) (fun(i:Nat)=>l.length - i) 0 (by kernel_rfl) (by kernel_rfl) ?_ ?_
  · exact⟨Nat.zero_le _,hr.symm⟩
  rintro i ⟨h1,h2⟩ A hA
  refine zh (let y0:=I.get (α:=Fld) l (Fld.mk ([]:Str) ([]:Str)) (Nat.cast i);let y1:=I.get (α:=Fld) m (Fld.mk ([]:Str) ([]:Str)) (Nat.cast i);let y2:=I.inb (Nat.cast i) (I.len (α:=Fld) l);let y3:=I.inb (Nat.cast i) (I.len (α:=Fld) m);.br (I.ilt (Nat.cast i) (I.len (α:=Fld) l)) (.need y2 (.need y2 (.need y3 (.need y3 (.br (I.bnot (I.ban (I.seq (Fld.name y0) (Fld.name y1)) (I.seq (Fld.value y0) (Fld.value y1)))) (.fin (.ret (.v (.one (.p (.bool Bool.false))))) []) (.need (I.inr Go.IntKind.i64 (I.add (Nat.cast i) 1)) (.need (A ⟨[(0,(.v (.one (.p (.list .fld l))))),(1,(.v (.one (.p (.list .fld m))))),(5,(.v (.one (.p (.int .i64 (I.add (Nat.cast i) 1))))))],[],26,none⟩) .qed))))))) (.fin (.ret (.v (.one (.p (.bool Bool.true))))) [])) (by kernel_rfl) ?_
  simp only [zy]
  subst hI
  simp only [nrmA,nrmB,nrlB,reduceCtorEq]
  have hd:i<l.length→_:=fun h=>za4 (l:=l) (m:=m) (i:=i) h (by omega)
  have hend: ¬ i<l.length→r=true:=fun h=>by
    rw [h2,List.drop_of_length_le (by omega),List.drop_of_length_le (by omega)];simp
  generalize l.getD i ⟨[],[]⟩=x at *
  generalize m.getD i ⟨[],[]⟩=y at *
  have hx: ¬ x=y→i<l.length→r=false:=fun h hi=>by rw [h2,hd hi,decide_eq_false h,Bool.false_and]
  have hy:x=y→i<l.length→r=decide (l.drop (i+1)=m.drop (i+1)):=fun h hi=>by rw [h2,hd hi,decide_eq_true h,Bool.true_and]
  (repeat' (first|refine And.intro ?_ ?_|intro _))<;>first|omega|exact True.intro|exact False.elim ‹False›|skip
  all_goals first
    |omega
    |(exact(hx (by rintro rfl;simp_all) (by omega)).symm)
    |(rw [hx (by rintro rfl;simp_all) (by omega)])
    |exact hA (i+1) ⟨by omega,hy (zjZ (by simp_all) (by simp_all)) (by omega)⟩ (by omega)
    |(rw [hend (by omega)])
def Wp (I:Alg) (args:List D) (hp:List HO):Option CT:=match args,hp with
  |[.v (.one (.p (.list .fld l))),.v (.one (.p (.list .fld m)))],[]=>(fun(l m:List Fld)=>(some (.one ⟨I.hid (l.length≤140737488355328∧m.length≤140737488355328),(.ret (.v (.one (.p (.bool (I.hid ((decide (l=m))))))))),[]⟩):Option CT)) l m
  |_,_=>none
theorem zcI:zD Tryz.prog 57 (Wp alg):=by
  intro args hp r h
  unfold Wp at h
  split at h
  · cases h;exact fun hn=>zkr _ _ hn
  · cases h
def zhP:Know Tryz.prog:=⟨57,Wp,zcI⟩
def zhO:Know Tryz.prog:=⟨57,fun I=>zH I (Wp I),zf zcI⟩
end Go.Proofs.YtmibhbdfigpkmaaGreatDoor
namespace Go.Proofs.YtmibhbdfigpkmaaGreatDoor
open Go Go.Sep Go.Ab
set_option maxRecDepth 100000
theorem zgu {b:Str} {i:Nat} (h:i<b.length):xN (b.take i) (b.drop i)=
    if b.getD i 0=13 then(if i+1<b.length then(if b.getD (i+1) 0=10 then(b.take i,(i:Int)+2,true,0) else([],(i:Int)+2,false,2)) else([],0,false,0))
    else if b.getD i 0=10 then([],(i:Int)+1,false,2) else if zei (b.getD i 0)=false then([],(i:Int)+1,false,3) else if i=200 then([],(i:Int)+1,false,4)
    else xN (b.take (i+1)) (b.drop (i+1)):=by
  have e1:b.getD i 0=b[i]:=by simp [h]
  have hl:(b.take i).length=i:=by rw [List.length_take];omega
  rw [e1,List.drop_eq_getElem_cons h,List.take_succ_eq_append_getElem h,xN.eq_def]
  simp only [hl]
  split
  · by_cases h2:i+1<b.length
    · have e2:b.getD (i+1) 0=b[i+1]:=by simp [h2]
      rw [if_pos h2,e2,List.drop_eq_getElem_cons h2]
    · rw [if_neg h2,List.drop_of_length_le (by omega)]
  · rfl
theorem zjN (b:Str) (hneed:b.length≤1000000):Spc Tryz.prog 24 [.v (.one (.p (.list .byte b)))] [] (.ret (.tup [(.one (.p (.str ((zu b).1)))),(.one (.p (.int .i64 ((zu b).2.1)))),(.one (.p (.bool ((zu b).2.2.1)))),(.one (.p (.int .i64 ((zu b).2.2.2))))])) []:=by
  generalize hr:zu b=r
  obtain⟨s,n,ok,c⟩:=r
  refine spcG zi mixed Tryz.func24 (by kernel_rfl) { keep:=some [0,2,3,4,5,6,7]} [YB,YA] (by kernel_rfl) ?_
  intro I X hI hX
  refine zh (.code 0 [1,0,1,0] ⟨[(6,(.v (.one (.p (.int .i64 0))))),(5,(.v (.one (.p (.int .i64 0))))),(4,(.v (.one (.p (.val (.bool .false)))))),(3,(.v (.one (.p (.int .i64 0))))),(2,(.v (.one (.p (.str ([]:Str)))))),(0,(.v (.one (.p (.list .byte b)))))],[],52,none⟩) (by kernel_rfl) ?_
  simp only [zy]
  refine zG hI zi mixed [YB,YA] hX [0,6] (fun(i:Nat)=>i≤b.length∧i≤200∧xN (b.take i) (b.drop i)=(s,n,ok,c)) (fun(i:Nat)=>⟨[(0,.v (.one (.p (.list .byte b)))),(6,.v (.one (.p (.int .i64 i))))],[],52,none⟩) (fun(i:Nat)=>b.length - i) 0 (by kernel_rfl) (by kernel_rfl) ?_ ?_
  · exact⟨Nat.zero_le _,Nat.zero_le _,hr⟩
  rintro i ⟨h1,h2,h3⟩ A hA
  refine zh (let y0:=I.inr Go.IntKind.i64 (I.add (Nat.cast i) 1);let y1:=I.b2i (I.get (α:=UInt8) b 0 (Nat.cast i));let y2:=I.inb (I.add (Nat.cast i) 1) (I.len (α:=UInt8) b);let y3:=I.inr Go.IntKind.i64 (I.add (Nat.cast i) 2);let y4:=I.inb (Nat.cast i) (I.len (α:=UInt8) b);.br (I.ilt (Nat.cast i) (I.len (α:=UInt8) b)) (.need y4 (.need y4 (.br (I.ieq y1 13) (.need y0 (.br (I.ieq (I.add (Nat.cast i) 1) (I.len (α:=UInt8) b)) (.fin (.ret (.tup [(.one (.p (.str ([]:Str)))),(.one (.p (.int .i64 0))),(.one (.p (.bool Bool.false))),(.one (.p (.int .i64 0)))])) []) (.need y0 (.need y2 (.need y2 (.br (I.bnot (I.ieq (I.b2i (I.get (α:=UInt8) b 0 (I.add (Nat.cast i) 1))) 10)) (.need y3 (.fin (.ret (.tup [(.one (.p (.str ([]:Str)))),(.one (.p (.int .i64 (I.add (Nat.cast i) 2)))),(.one (.p (.bool Bool.false))),(.one (.p (.int .i64 2)))])) [])) (.need (I.cutb 0 (Int.ofNat i) (I.len (α:=UInt8) b)) (.need y3 (.fin (.ret (.tup [(.one (.p (.str (I.cut (α:=UInt8) b 0 (Int.ofNat i))))),(.one (.p (.int .i64 (I.add (Nat.cast i) 2)))),(.one (.p (.bool Bool.true))),(.one (.p (.int .i64 0)))])) []))))))))) (.br (I.ieq y1 10) (.need y0 (.fin (.ret (.tup [(.one (.p (.str ([]:Str)))),(.one (.p (.int .i64 (I.add (Nat.cast i) 1)))),(.one (.p (.bool Bool.false))),(.one (.p (.int .i64 2)))])) [])) (.need (I.hid (α:=(Prop)) True) (.br (I.bnot (I.hid (α:=Bool) (ZX y1))) (.need y0 (.fin (.ret (.tup [(.one (.p (.str ([]:Str)))),(.one (.p (.int .i64 (I.add (Nat.cast i) 1)))),(.one (.p (.bool Bool.false))),(.one (.p (.int .i64 3)))])) [])) (.br (I.ieq (Nat.cast i) 200) (.need y0 (.fin (.ret (.tup [(.one (.p (.str ([]:Str)))),(.one (.p (.int .i64 (I.add (Nat.cast i) 1)))),(.one (.p (.bool Bool.false))),(.one (.p (.int .i64 4)))])) [])) (.need y0 (.need (A ⟨[(0,(.v (.one (.p (.list .byte b))))),(6,(.v (.one (.p (.int .i64 (I.add (Nat.cast i) 1))))))],[],52,none⟩) .qed))))))))) (.fin (.ret (.tup [(.one (.p (.str ([]:Str)))),(.one (.p (.int .i64 0))),(.one (.p (.bool Bool.false))),(.one (.p (.int .i64 0)))])) [])) (by kernel_rfl) ?_
  simp only [zy]
  subst hI
  simp only [nrmA,nrmB,nrlB,reduceCtorEq]
  have hx:i<b.length→_:=fun h=>zgu (b:=b) (i:=i) h
  have hend: ¬ i<b.length→(s,n,ok,c)=([],0,false,0):=fun h=>by rw [← h3,List.drop_of_length_le (by omega)];rfl
  unfold zei at hx
  rw [h3] at hx
  have hn1:((i:Int)+1).toNat=i+1:=by omega
  rw [hn1]
  generalize b.getD i 0=x at *
  generalize b.getD (i+1) 0=y at *
  have h13:(x.toNat:Int)=13↔x=13:=⟨fun h=>UInt8.toNat_inj.1 (Int.ofNat_inj.1 h),fun h=>by subst h;rfl⟩
  have h10:(x.toNat:Int)=10↔x=10:=⟨fun h=>UInt8.toNat_inj.1 (Int.ofNat_inj.1 h),fun h=>by subst h;rfl⟩
  have hy10:(y.toNat:Int)=10↔y=10:=⟨fun h=>UInt8.toNat_inj.1 (Int.ofNat_inj.1 h),fun h=>by subst h;rfl⟩
  simp only [h13,h10,hy10]
  (repeat' (first|refine And.intro ?_ ?_|intro _))<;>first|omega|exact True.intro|exact False.elim ‹False›|skip
  all_goals first
    |(have hx:=hx (by omega);((repeat(first|rewrite [if_pos (by first|omega|assumption|(simp only [*,or_self,or_true,true_or,or_false,false_or,not_true_eq_false,not_false_eq_true,Bool.false_eq_true,Bool.true_eq_false,and_self,and_true,true_and];done)|(simp only [*];omega)|(simp [*];done)|(simp [*];omega))] at hx|rewrite [if_neg (by first|omega|assumption|(simp only [*,or_self,or_true,true_or,or_false,false_or,not_true_eq_false,not_false_eq_true,Bool.false_eq_true,Bool.true_eq_false,and_self,and_true,true_and];done)|(simp only [*];omega)|(simp [*];done)|(simp [*];omega))] at hx)));cases hx;first|rfl|done|exact⟨rfl,rfl,rfl,rfl⟩|(simp;done)|(simp;omega))
    |(have hx:=hx (by omega);((repeat(first|rewrite [if_pos (by first|omega|assumption|(simp only [*,or_self,or_true,true_or,or_false,false_or,not_true_eq_false,not_false_eq_true,Bool.false_eq_true,Bool.true_eq_false,and_self,and_true,true_and];done)|(simp only [*];omega)|(simp [*];done)|(simp [*];omega))] at hx|rewrite [if_neg (by first|omega|assumption|(simp only [*,or_self,or_true,true_or,or_false,false_or,not_true_eq_false,not_false_eq_true,Bool.false_eq_true,Bool.true_eq_false,and_self,and_true,true_and];done)|(simp only [*];omega)|(simp [*];done)|(simp [*];omega))] at hx)));exact hA (i+1) ⟨by omega,by omega,hx.symm⟩ (by omega))
    |(have hend:=hend (by omega);cases hend;first|rfl|exact⟨rfl,rfl,rfl,rfl⟩)
def Yy (I:Alg) (args:List D) (hp:List HO):Option CT:=match args,hp with
  |[.v (.one (.p (.list .byte b)))],[]=>(fun(b:Str)=>(some (.one ⟨I.hid (b.length≤1000000),(.ret (.tup [(.one (.p (.str (I.hid ((zu b).1))))),(.one (.p (.int .i64 (I.hid ((zu b).2.1))))),(.one (.p (.bool (I.hid ((zu b).2.2.1))))),(.one (.p (.int .i64 (I.hid ((zu b).2.2.2)))))])),[]⟩):Option CT)) b
  |_,_=>none
theorem zaD:zD Tryz.prog 24 (Yy alg):=by
  intro args hp r h
  unfold Yy at h
  split at h
  · cases h;exact fun hn=>zjN _ hn
  · cases h
def tH:Know Tryz.prog:=⟨24,Yy,zaD⟩
def tC:Know Tryz.prog:=⟨24,fun I=>zH I (Yy I),zf zaD⟩
end Go.Proofs.YtmibhbdfigpkmaaGreatDoor
namespace Go.Proofs.YtmibhbdfigpkmaaGreatDoor
open Go Go.Sep Go.Ab
set_option maxRecDepth 100000
theorem zkq {R Q:Prop} (h1:R→Q) (h2:R):Q:=h1 h2
theorem TG: ∀ (r pre:Str),(xN pre r).1.length≤pre.length+r.length
  |[],pre=>by simp [xN]
  | c ::r,pre=>by
    rw [xN.eq_def]
    simp only
    split
    · split
      · simp
      · split
        · simp
        · simp
    split
    · simp
    split
    · simp
    split
    · simp
    · have:=TG r (pre++[c])
      rw [List.length_append] at this
      simp at this ⊢
      omega
theorem tu (r:Str):(zu r).1.length≤r.length:=by have:=TG r [];simpa [zu] using this
theorem ChR.zif (o:Str) (b:Str) (x:ChR):outR (x.pre o)=o++outR x∧rV b (x.pre o)=rV b x∧isR (x.pre o)=isR x∧ZP (x.pre o)=ZP x:=by
  cases x<;>exact⟨rfl,rfl,rfl,rfl⟩
set_option maxHeartbeats 8000000 in
theorem zlF (b:Str) (hneed:b.length≤1000000):Spc Tryz.prog 28 [.v (.one (.p (.list .byte b)))] [] (.ret (.tup [(.one (.row 0)),(.one (.p (.int .i64 ((rV b (zS b)))))),(.one (.p (.bool ((isR (zS b)))))),(.one (.p (.int .i64 ((ZP (zS b))))))])) [.row .byte 5 ((outR (zS b)))]:=by
  generalize hR:zS b=R
  generalize ho:outR R=ro
  generalize hu:rV b R=ru
  generalize hs:isR R=rs
  generalize hc:ZP R=rc
  refine spcG zi mixed Tryz.func28 (by kernel_rfl) { nr:=[6],keep:=some [0,2,3,4,5,6,7,8,9,10,11,12,13,14,15,16,17,18,19,21]} [uX,uV,yX,yV,uP,uO,vF,vC,tH,tC] (by kernel_rfl) ?_
  intro I X hI hX
  refine zh (.code 0 [1,1,1,0,0] ⟨[(7,(.v (.one (.p (.int .i64 0))))),(6,(.v (.one (.row 0)))),(5,(.v (.one (.p (.int .i64 0))))),(4,(.v (.one (.p (.val (.bool .false)))))),(3,(.v (.one (.p (.int .i64 0))))),(2,(.v (.one .nilS))),(0,(.v (.one (.p (.list .byte b)))))],[(.row .byte 5 ([]:Str))],166,none⟩) (by kernel_rfl) ?_
  simp only [zy]
  refine zG hI zi mixed [uX,uV,yX,yV,uP,uO,vF,vC,tH,tC] hX [0,6,7] (fun(g:Nat × Str)=>match g with|(i,o)=>i≤b.length∧o.length≤4000∧∃ f,(b.drop i).length<f∧(UI f o.length (b.drop i)).pre o=R) (fun(g:Nat × Str)=>match g with|(i,o)=>⟨[(0,.v (.one (.p (.list .byte b)))),(6,.v (.one (.row 0))),(7,.v (.one (.p (.int .i64 i))))],[.row .byte 5 o],166,none⟩) (fun(g:Nat × Str)=>match g with|(i,o)=>b.length - i) (0,[]) (by kernel_rfl) (by kernel_rfl) ?_ ?_
  · exact⟨Nat.zero_le _,Nat.zero_le _,b.length+1,Nat.lt_succ_self _,by rw [ChR.pre_nil];exact hR⟩
  rintro⟨i,o⟩ ⟨h1,h2,f,h3,h4⟩ A hA
  simp only at hA h1 h2 h3 h4
  refine zh (let y2:=I.cut (α:=UInt8) b (Int.ofNat i) (I.len (α:=UInt8) b);let y25:=I.hid (α:=Int) (Prod.fst (Prod.snd (zu y2)));let y3:=I.add (Nat.cast i) y25;let y4:=I.hid (α:=Str) (Prod.fst (zu y2));let y9:=I.hid (α:=Int) (yj ([59]:Str) y4 (0:Int));let y5:=I.hid (α:=Str) (Go.Lib.trimS (I.cut (α:=UInt8) y4 0 y9) ([32,9]:Str));let y11:=I.hid (α:=Int) (Prod.fst (numA y5 (16:Int) (6:Int)));let y0:=I.add y3 y11;let y8:=I.hid (α:=Int) (Prod.fst (numA (I.hid (α:=Str) (Go.Lib.trimS y4 ([32,9]:Str))) (16:Int) (6:Int)));let y1:=I.add y3 y8;let y12:=I.cut (α:=UInt8) b y0 (I.len (α:=UInt8) b);let y6:=I.add y0 (I.hid (α:=Int) (Prod.fst (Prod.snd (zu y12))));let y13:=I.cut (α:=UInt8) b y1 (I.len (α:=UInt8) b);let y7:=I.add y1 (I.hid (α:=Int) (Prod.fst (Prod.snd (zu y13))));let y10:=I.hid (α:=Int) (Prod.snd (Prod.snd (Prod.snd (zu y2))));let y14:HO:=.row .byte 5 (I.app (α:=UInt8) o (I.cut (α:=UInt8) b y3 y0));let y15:HO:=.row .byte 5 (I.app (α:=UInt8) o (I.cut (α:=UInt8) b y3 y1));let y16:=I.cut (α:=UInt8) b y3 (I.len (α:=UInt8) b);let y17:=I.hid (α:=Bool) (Prod.fst (Prod.snd (Prod.snd (zu y2))));let y18:=I.hid (α:=Int) (Prod.snd (Prod.snd (Prod.snd (zu y12))));let y19:=I.hid (α:=Int) (Prod.snd (Prod.snd (Prod.snd (zu y13))));let y20:=I.hid (α:=Bool) (Prod.snd (numA (I.hid (α:=Str) (Go.Lib.trimS y4 ([32,9]:Str))) (16:Int) (6:Int)));let y21:=I.few (I.add (I.len (α:=UInt8) o) (I.len (α:=UInt8) y16)) 140737488355328;let y22:=I.hid (α:=Bool) (Prod.snd (numA y5 (16:Int) (6:Int)));let y23:=I.cutb y3 (I.len (α:=UInt8) b) (I.len (α:=UInt8) b);let y24:=I.inr Go.IntKind.i64 (I.sub (I.len (α:=UInt8) b) y3);let y26:HO:=.row .byte 5 (I.app (α:=UInt8) o y16);let y27:=I.add (I.len (α:=UInt8) o) y11;.need (I.cutb (Int.ofNat i) (I.len (α:=UInt8) b) (I.len (α:=UInt8) b)) (.need (I.hid (α:=(Prop)) (LE.le (List.length y2) 1000000)) (.br (I.bnot (I.ieq y10 0)) (.need (I.inr Go.IntKind.i64 y3) (.fin (.ret (.tup [(.one (.row 0)),(.one (.p (.int .i64 y3))),(.one (.p (.bool Bool.false))),(.one (.p (.int .i64 y10)))])) [(.row .byte 5 o)])) (.br (I.bnot y17) (.need (I.inr Go.IntKind.i64 y3) (.fin (.ret (.tup [(.one (.row 0)),(.one (.p (.int .i64 y3))),(.one (.p (.bool Bool.false))),(.one (.p (.int .i64 y10)))])) [(.row .byte 5 o)])) (.need (I.inr Go.IntKind.i64 y3) (.need (I.hid (α:=(Prop)) (And (LE.le (List.length y4) 1000000) (LE.le (List.length ([59]:Str)) 1000000))) (.br (I.ile 0 y9) (.need (I.cutb 0 y9 (I.len (α:=UInt8) y4)) (.need (I.hid (α:=(Prop)) (LE.le (List.length (I.cut (α:=UInt8) y4 0 y9)) 1000000)) (.need (I.hid (α:=(Prop)) True) (.br (I.bnot y22) (.fin (.ret (.tup [(.one (.row 0)),(.one (.p (.int .i64 y3))),(.one (.p (.bool Bool.false))),(.one (.p (.int .i64 7)))])) [(.row .byte 5 o)]) (.need (I.inr Go.IntKind.i64 y27) (.br (I.ilt 4000 y27) (.fin (.ret (.tup [(.one (.row 0)),(.one (.p (.int .i64 y3))),(.one (.p (.bool Bool.false))),(.one (.p (.int .i64 4)))])) [(.row .byte 5 o)]) (.br (I.ieq y11 0) (.code 1 [1,1,1,1,1,0] ⟨[(15,(.v (.one (.p (.int .i64 0))))),(14,(.v (.one (.p (.bool y22))))),(13,(.v (.one (.p (.int .i64 y11))))),(8,(.v (.one (.p (.str (I.cut (α:=UInt8) y4 0 y9)))))),(12,(.v (.one (.p (.int .i64 y9))))),(7,(.v (.one (.p (.int .i64 y3))))),(11,(.v (.one (.p (.int .i64 y10))))),(10,(.v (.one (.p (.bool y17))))),(9,(.v (.one (.p (.int .i64 y25))))),(0,(.v (.one (.p (.list .byte b))))),(6,(.v (.one (.row 0))))],[(.row .byte 5 o),(.row .byte 5 y4)],166,none⟩) (.need y24 (.br (I.ilt (I.sub (I.len (α:=UInt8) b) y3) y11) (.need y23 (.need y21 (.fin (.ret (.tup [(.one (.row 0)),(.one (.p (.int .i64 (I.len (α:=UInt8) b)))),(.one (.p (.bool Bool.false))),(.one (.p (.int .i64 0)))])) [y26]))) (.need (I.inr Go.IntKind.i64 y0) (.need (I.cutb y3 y0 (I.len (α:=UInt8) b)) (.need (I.few (I.add (I.len (α:=UInt8) o) (I.len (α:=UInt8) (I.cut (α:=UInt8) b y3 y0))) 140737488355328) (.need (I.inr Go.IntKind.i64 y0) (.need (I.cutb y0 (I.len (α:=UInt8) b) (I.len (α:=UInt8) b)) (.need (I.hid (α:=(Prop)) (LE.le (List.length y12) 1000000)) (.br (I.bnot (I.ieq y18 0)) (.need (I.inr Go.IntKind.i64 y6) (.fin (.ret (.tup [(.one (.row 0)),(.one (.p (.int .i64 y6))),(.one (.p (.bool Bool.false))),(.one (.p (.int .i64 y18)))])) [y14])) (.br (I.bnot (I.hid (α:=Bool) (Prod.fst (Prod.snd (Prod.snd (zu y12)))))) (.need (I.inr Go.IntKind.i64 y6) (.fin (.ret (.tup [(.one (.row 0)),(.one (.p (.int .i64 y6))),(.one (.p (.bool Bool.false))),(.one (.p (.int .i64 y18)))])) [y14])) (.need (I.inr Go.IntKind.i64 y6) (.br (I.bnot (I.seq (I.hid (α:=Str) (Prod.fst (zu y12))) ([]:Str))) (.fin (.ret (.tup [(.one (.row 0)),(.one (.p (.int .i64 y6))),(.one (.p (.bool Bool.false))),(.one (.p (.int .i64 5)))])) [y14]) (.need (A ⟨[(0,(.v (.one (.p (.list .byte b))))),(6,(.v (.one (.row 0)))),(7,(.v (.one (.p (.int .i64 y6)))))],[y14],166,none⟩) .qed)))))))))))))))))))) (.need (I.hid (α:=(Prop)) (LE.le (List.length y4) 1000000)) (.need (I.hid (α:=(Prop)) True) (.br (I.bnot y20) (.fin (.ret (.tup [(.one (.row 0)),(.one (.p (.int .i64 y3))),(.one (.p (.bool Bool.false))),(.one (.p (.int .i64 7)))])) [(.row .byte 5 o)]) (.need (I.inr Go.IntKind.i64 (I.add (I.len (α:=UInt8) o) y8)) (.br (I.ilt 4000 (I.add (I.len (α:=UInt8) o) y8)) (.fin (.ret (.tup [(.one (.row 0)),(.one (.p (.int .i64 y3))),(.one (.p (.bool Bool.false))),(.one (.p (.int .i64 4)))])) [(.row .byte 5 o)]) (.br (I.ieq y8 0) (.code 1 [1,1,1,1,1,0] ⟨[(15,(.v (.one (.p (.int .i64 0))))),(14,(.v (.one (.p (.bool y20))))),(13,(.v (.one (.p (.int .i64 y8))))),(12,(.v (.one (.p (.int .i64 y9))))),(7,(.v (.one (.p (.int .i64 y3))))),(11,(.v (.one (.p (.int .i64 y10))))),(10,(.v (.one (.p (.bool y17))))),(9,(.v (.one (.p (.int .i64 y25))))),(8,(.v (.one (.p (.str y4))))),(0,(.v (.one (.p (.list .byte b))))),(6,(.v (.one (.row 0))))],[(.row .byte 5 o),(.row .byte 5 y4)],166,none⟩) (.need y24 (.br (I.ilt (I.sub (I.len (α:=UInt8) b) y3) y8) (.need y23 (.need y21 (.fin (.ret (.tup [(.one (.row 0)),(.one (.p (.int .i64 (I.len (α:=UInt8) b)))),(.one (.p (.bool Bool.false))),(.one (.p (.int .i64 0)))])) [y26]))) (.need (I.inr Go.IntKind.i64 y1) (.need (I.cutb y3 y1 (I.len (α:=UInt8) b)) (.need (I.few (I.add (I.len (α:=UInt8) o) (I.len (α:=UInt8) (I.cut (α:=UInt8) b y3 y1))) 140737488355328) (.need (I.inr Go.IntKind.i64 y1) (.need (I.cutb y1 (I.len (α:=UInt8) b) (I.len (α:=UInt8) b)) (.need (I.hid (α:=(Prop)) (LE.le (List.length y13) 1000000)) (.br (I.bnot (I.ieq y19 0)) (.need (I.inr Go.IntKind.i64 y7) (.fin (.ret (.tup [(.one (.row 0)),(.one (.p (.int .i64 y7))),(.one (.p (.bool Bool.false))),(.one (.p (.int .i64 y19)))])) [y15])) (.br (I.bnot (I.hid (α:=Bool) (Prod.fst (Prod.snd (Prod.snd (zu y13)))))) (.need (I.inr Go.IntKind.i64 y7) (.fin (.ret (.tup [(.one (.row 0)),(.one (.p (.int .i64 y7))),(.one (.p (.bool Bool.false))),(.one (.p (.int .i64 y19)))])) [y15])) (.need (I.inr Go.IntKind.i64 y7) (.br (I.bnot (I.seq (I.hid (α:=Str) (Prod.fst (zu y13))) ([]:Str))) (.fin (.ret (.tup [(.one (.row 0)),(.one (.p (.int .i64 y7))),(.one (.p (.bool Bool.false))),(.one (.p (.int .i64 5)))])) [y15]) (.need (A ⟨[(0,(.v (.one (.p (.list .byte b))))),(6,(.v (.one (.row 0)))),(7,(.v (.one (.p (.int .i64 y7)))))],[y15],166,none⟩) .qed)))))))))))))))))))))))))) (by kernel_rfl) ?_
  simp only [zy]
  have hh: ∀ {α:Type} (x:α),I.hid x=x:=by subst hI;intros;rfl
  have hcut: ∀ j:Nat,I.cut b (j:Int) (I.len b)=b.drop j:=fun j=>by
    subst hI
    rw [xg,zU,Int.toNat_natCast,Int.toNat_natCast]
    exact List.take_of_length_le (by rw [List.length_drop];exact Nat.le_refl _)
  have hadd: ∀ j k:Nat,I.add (j:Int) (k:Int)=((j+k:Nat):Int):=fun j k=>by subst hI;rw [xK];omega
  have hcut0:I.cut b (Int.ofNat i) (I.len b)=b.drop i:=hcut i
  simp only [hcut0,hh]
  obtain⟨n,hn,hn1,hn2,hn3,hn4⟩:=xY (b.drop i)
  obtain⟨f,rfl⟩: ∃ f',f=f'+1:=⟨f - 1,by omega⟩
  rw [UI] at h4
  rw [List.length_drop] at h3 hn1
  simp only [hn,hadd,Int.toNat_natCast,List.drop_drop] at h4 ⊢
  have hll:=tu (b.drop i)
  rw [List.length_drop] at hll
  generalize zu (b.drop i)=x at *
  obtain⟨t,n',ok,e⟩:=x
  simp only at *
  subst hn
  have hfc:yj [59] t 0=Lib.indexByte t 59:=by
    rw [vz]
    split
    · rename_i h;rw [h]
    · omega
  have hix:=yN t 59
  rw [hfc]
  have hcl:=(WT t 59).1
  have hm0:=vV t
  have hsz:numA (Lib.trimS (cutB t 59).1 [32,9]) 16 6=yL t:=rfl
  obtain⟨m,okm,hz⟩: ∃ (m:Nat) (okm:Bool),yL t=((m:Int),okm):=⟨(yL t).1.toNat,(yL t).2,Prod.ext (by simp only;omega) rfl⟩
  rw [hz] at hsz hm0 h4
  have hc1:0≤Lib.indexByte t 59→I.cut t 0 (Lib.indexByte t 59)=(cutB t 59).1:=fun h=>by
    subst hI
    rw [cutB,if_pos h,xg];simp
  have hc2: ¬ 0≤Lib.indexByte t 59→(cutB t 59).1=t:=fun h=>by rw [cutB,if_neg h]
  have hcut4:I.cut b ((i+n:Nat):Int) ((i+n+m:Nat):Int)=(b.drop (i+n)).take m:=by
    subst hI
    rw [xg,Int.toNat_natCast,Int.toNat_natCast,Nat.add_sub_cancel_left]
  obtain⟨n2,gn,gn1,gn2,gn3,gn4⟩:=xY (b.drop (i+n+m))
  have gll:=tu (b.drop (i+n+m))
  rw [List.length_drop] at gll gn1
  simp only [Int.toNat_natCast,List.drop_drop] at h4
  unfold endR at h4
  obtain⟨t2,n2',ok2,e3,hx2⟩: ∃ t2 n2' ok2 e3,zu (b.drop (i+n+m))=(t2,n2',ok2,e3):=⟨_,_,_,_,rfl⟩
  rw [hx2] at gn gn2 gn3 gn4 gll h4
  simp only at gn gn2 gn3 gn4 gll h4
  subst gn
  simp only [Int.toNat_natCast,List.drop_drop] at h4
  have e1t:0≤Lib.indexByte t 59→I.ile 0 (Lib.indexByte t 59)=true:=fun h=>by subst hI;exact decide_eq_true h
  have e1f: ¬ 0≤Lib.indexByte t 59→I.ile 0 (Lib.indexByte t 59)=false:=fun h=>by subst hI;exact decide_eq_false h
  have hm1:m≤16777215:=by have:=zcC t;rw [hz] at this;simp only at this;omega
  apply zkq
  · intro key
    by_cases hk:0≤Lib.indexByte t 59
    all_goals first
      | (have e1:=e1t hk
         have e2:=hc1 hk
         simp only [e1,e2,hsz,hadd,hcut,hcut4,hx2,Bool.true_eq_false,false_implies,and_true,true_implies])
      | (have e1:=e1f hk
         have e2:=hc2 hk
         rw [e2] at hsz
         simp only [e1,hsz,hadd,hcut,hcut4,hx2,Bool.false_eq_true,false_implies,true_and,true_implies])
    all_goals(repeat' (first|refine And.intro ?_ ?_|intro _))
    all_goals first
      | (clear key;subst hI;(simp only [nrmA,nrmB,nrlB,reduceCtorEq] at *);first
        |done
        |omega
        |(simp only [List.length_take,List.length_drop,List.length_cons,List.length_nil];omega)
        |((repeat(first|rewrite [if_pos (by first|omega|assumption|(simp only [*,or_self,or_true,true_or,or_false,false_or,not_true_eq_false,not_false_eq_true,Bool.false_eq_true,Bool.true_eq_false,and_self,and_true,true_and];done)|(simp only [*];omega)|(simp [*];done)|(simp [*];omega))] at h4|rewrite [if_neg (by first|omega|assumption|(simp only [*,or_self,or_true,true_or,or_false,false_or,not_true_eq_false,not_false_eq_true,Bool.false_eq_true,Bool.true_eq_false,and_self,and_true,true_and];done)|(simp only [*];omega)|(simp [*];done)|(simp [*];omega))] at h4));subst h4;simp only [ChR.pre,outR,rV,isR,ZP,List.append_nil] at ho hu hs hc;subst ho;subst hu;subst hs;subst hc;first|done|rfl|(simp;done)|(simp;omega)|(simp only [List.length_drop];omega))
        | ((repeat(first|rewrite [if_pos (by first|omega|assumption|(simp only [*,or_self,or_true,true_or,or_false,false_or,not_true_eq_false,not_false_eq_true,Bool.false_eq_true,Bool.true_eq_false,and_self,and_true,true_and];done)|(simp only [*];omega)|(simp [*];done)|(simp [*];omega))] at h4|rewrite [if_neg (by first|omega|assumption|(simp only [*,or_self,or_true,true_or,or_false,false_or,not_true_eq_false,not_false_eq_true,Bool.false_eq_true,Bool.true_eq_false,and_self,and_true,true_and];done)|(simp only [*];omega)|(simp [*];done)|(simp [*];omega))] at h4));subst h4;simp only [ChR.pre,outR,rV,isR,ZP,List.append_nil] at ho hu hs hc;subst ho;subst hu;subst hs;subst hc;first
            |(have hn0:=hn3 ‹ok=false› ‹e=0›;simp only [List.length_drop,true_and,and_true];omega)
            |(have hn0:=gn3 ‹ok2=false› ‹e3=0›;simp only [List.length_drop,true_and,and_true];omega))
        | ((repeat(first|rewrite [if_pos (by first|omega|assumption|(simp only [*,or_self,or_true,true_or,or_false,false_or,not_true_eq_false,not_false_eq_true,Bool.false_eq_true,Bool.true_eq_false,and_self,and_true,true_and];done)|(simp only [*];omega)|(simp [*];done)|(simp [*];omega))] at h4|rewrite [if_neg (by first|omega|assumption|(simp only [*,or_self,or_true,true_or,or_false,false_or,not_true_eq_false,not_false_eq_true,Bool.false_eq_true,Bool.true_eq_false,and_self,and_true,true_and];done)|(simp only [*];omega)|(simp [*];done)|(simp [*];omega))] at h4))
           rw [ChR.zfZ] at h4
           have hl:(o++(b.drop (i+n)).take m).length=o.length+m:=by rw [List.length_append,List.length_take,List.length_drop];omega
           exact hA (i+n+m+n2,o++(b.drop (i+n)).take m) ⟨by simp only;omega,by simp only;omega,f,by simp only;rw [List.length_drop];omega,by simp only [hl];exact h4⟩ (by simp only;omega)))
      |skip
    all_goals
      refine zG hI zi mixed [uX,uV,yX,yV,uP,uO,vF,vC,tH,tC] hX [0,6,7,15] (fun(g:Nat × Nat)=>match g with|(j,c)=>j≤b.length∧c≤16∧∃ f,(b.drop j).length<f∧(Vf f c (b.drop j)).pre o=R) (fun(g:Nat × Nat)=>match g with|(j,c)=>⟨[(0,.v (.one (.p (.list .byte b)))),(6,.v (.one (.row 0))),(7,.v (.one (.p (.int .i64 j)))),(15,.v (.one (.p (.int .i64 c))))],[.row .byte 5 o],166,none⟩) (fun(g:Nat × Nat)=>match g with|(j,c)=>b.length - j) (i+n,0) (by kernel_rfl) (by kernel_rfl) ?_ ?_
      · clear key
        subst hI
        simp only [nrmA,nrmB] at *
        have hnp:=hn2 (.inl ‹ok=true›)
        refine⟨by omega,by decide,f,by rw [List.length_drop];omega,?_⟩
        (repeat(first|rewrite [if_pos (by first|omega|assumption|(simp only [*,or_self,or_true,true_or,or_false,false_or,not_true_eq_false,not_false_eq_true,Bool.false_eq_true,Bool.true_eq_false,and_self,and_true,true_and];done)|(simp only [*];omega)|(simp [*];done)|(simp [*];omega))] at h4|rewrite [if_neg (by first|omega|assumption|(simp only [*,or_self,or_true,true_or,or_false,false_or,not_true_eq_false,not_false_eq_true,Bool.false_eq_true,Bool.true_eq_false,and_self,and_true,true_and];done)|(simp only [*];omega)|(simp [*];done)|(simp [*];omega))] at h4))
        exact h4
      exact key
  rintro⟨j,c⟩ ⟨g1,g2,f2,g3,g4⟩ B hB
  simp only at hB g1 g2 g3 g4
  have hcutj:I.cut b (Int.ofNat j) (I.len b)=b.drop j:=hcut j
  clear hA
  refine zh (let y1:=I.cut (α:=UInt8) b (Int.ofNat j) (I.len (α:=UInt8) b);let y0:=I.add (Nat.cast j) (I.hid (α:=Int) (Prod.fst (Prod.snd (zu y1))));let y2:=I.hid (α:=Int) (Prod.snd (Prod.snd (Prod.snd (zu y1))));let y3:=I.hid (α:=Str) (Prod.fst (zu y1));let y4:=I.hid (α:=Int) (Prod.snd (zM y3));.need (I.cutb (Int.ofNat j) (I.len (α:=UInt8) b) (I.len (α:=UInt8) b)) (.need (I.hid (α:=(Prop)) (LE.le (List.length y1) 1000000)) (.br (I.bnot (I.ieq y2 0)) (.need (I.inr Go.IntKind.i64 y0) (.fin (.ret (.tup [(.one (.row 0)),(.one (.p (.int .i64 y0))),(.one (.p (.bool Bool.false))),(.one (.p (.int .i64 y2)))])) [(.row .byte 5 o)])) (.br (I.bnot (I.hid (α:=Bool) (Prod.fst (Prod.snd (Prod.snd (zu y1)))))) (.need (I.inr Go.IntKind.i64 y0) (.fin (.ret (.tup [(.one (.row 0)),(.one (.p (.int .i64 y0))),(.one (.p (.bool Bool.false))),(.one (.p (.int .i64 y2)))])) [(.row .byte 5 o)])) (.need (I.inr Go.IntKind.i64 y0) (.br (I.seq y3 ([]:Str)) (.fin (.ret (.tup [(.one (.row 0)),(.one (.p (.int .i64 y0))),(.one (.p (.bool Bool.true))),(.one (.p (.int .i64 0)))])) [(.row .byte 5 o)]) (.br (I.ieq (Nat.cast c) 16) (.fin (.ret (.tup [(.one (.row 0)),(.one (.p (.int .i64 y0))),(.one (.p (.bool Bool.false))),(.one (.p (.int .i64 8)))])) [(.row .byte 5 o)]) (.need (I.hid (α:=(Prop)) (LE.le (List.length y3) 1000000)) (.br (I.bnot (I.ieq y4 0)) (.fin (.ret (.tup [(.one (.row 0)),(.one (.p (.int .i64 y0))),(.one (.p (.bool Bool.false))),(.one (.p (.int .i64 y4)))])) [(.row .byte 5 o)]) (.need (I.inr Go.IntKind.i64 (I.add (Nat.cast c) 1)) (.need (B ⟨[(0,(.v (.one (.p (.list .byte b))))),(6,(.v (.one (.row 0)))),(7,(.v (.one (.p (.int .i64 y0))))),(15,(.v (.one (.p (.int .i64 (I.add (Nat.cast c) 1))))))],[(.row .byte 5 o)],166,none⟩) .qed))))))))))) (by kernel_rfl) ?_
  simp only [zy]
  simp only [hcutj,hh]
  obtain⟨q,qn,q1,q2,q3,q4⟩:=xY (b.drop j)
  obtain⟨f2,rfl⟩: ∃ f',f2=f'+1:=⟨f2 - 1,by omega⟩
  rw [Vf] at g4
  have qll:=tu (b.drop j)
  rw [List.length_drop] at g3 q1 qll
  simp only [qn,hadd,Int.toNat_natCast,List.drop_drop] at g4 ⊢
  generalize zu (b.drop j)=x at *
  obtain⟨t',n',ok',e'⟩:=x
  simp only at *
  subst qn
  (repeat' (first|refine And.intro ?_ ?_|intro _))
  all_goals subst hI
  all_goals(simp only [nrmA,nrmB,nrlB,reduceCtorEq] at *)
  all_goals first
    |done
    |omega
    |(simp only [List.length_take,List.length_drop,List.length_cons,List.length_nil];omega)
    |((repeat(first|rewrite [if_pos (by first|omega|assumption|(simp only [*,or_self,or_true,true_or,or_false,false_or,not_true_eq_false,not_false_eq_true,Bool.false_eq_true,Bool.true_eq_false,and_self,and_true,true_and];done)|(simp only [*];omega)|(simp [*];done)|(simp [*];omega))] at g4|rewrite [if_neg (by first|omega|assumption|(simp only [*,or_self,or_true,true_or,or_false,false_or,not_true_eq_false,not_false_eq_true,Bool.false_eq_true,Bool.true_eq_false,and_self,and_true,true_and];done)|(simp only [*];omega)|(simp [*];done)|(simp [*];omega))] at g4));subst g4;simp only [ChR.pre,outR,rV,isR,ZP,List.append_nil] at ho hu hs hc;subst ho;subst hu;subst hs;subst hc;first|done|rfl|(simp;done)|(simp;omega)|(simp only [List.length_drop];omega)|(have hn0:=q3 ‹ok'=false› ‹e'=0›;simp only [List.length_drop,true_and,and_true];omega))
    | ((repeat(first|rewrite [if_pos (by first|omega|assumption|(simp only [*,or_self,or_true,true_or,or_false,false_or,not_true_eq_false,not_false_eq_true,Bool.false_eq_true,Bool.true_eq_false,and_self,and_true,true_and];done)|(simp only [*];omega)|(simp [*];done)|(simp [*];omega))] at g4|rewrite [if_neg (by first|omega|assumption|(simp only [*,or_self,or_true,true_or,or_false,false_or,not_true_eq_false,not_false_eq_true,Bool.false_eq_true,Bool.true_eq_false,and_self,and_true,true_and];done)|(simp only [*];omega)|(simp [*];done)|(simp [*];omega))] at g4))
       exact hB (j+q,c+1) ⟨by simp only;omega,by simp only;omega,f2,by simp only;rw [List.length_drop];have:=q2 (.inl ‹ok'=true›);omega,by simp only;rw [Int.natCast_add];exact g4⟩ (by simp only;have:=q2 (.inl ‹ok'=true›);omega))
def Qp (I:Alg) (args:List D) (hp:List HO):Option CT:=match args,hp with
  |[.v (.one (.p (.list .byte b)))],[]=>(fun(b:Str)=>(some (.one ⟨I.hid (b.length≤1000000),(.ret (.tup [(.one (.row 0)),(.one (.p (.int .i64 (I.hid ((rV b (zS b))))))),(.one (.p (.bool (I.hid ((isR (zS b))))))),(.one (.p (.int .i64 (I.hid ((ZP (zS b)))))))])),[.row .byte 5 (I.hid ((outR (zS b))))]⟩):Option CT)) b
  |_,_=>none
theorem zha:zD Tryz.prog 28 (Qp alg):=by
  intro args hp r h
  unfold Qp at h
  split at h
  · cases h;exact fun hn=>zlF _ hn
  · cases h
def zb2:Know Tryz.prog:=⟨28,Qp,zha⟩
def zb1:Know Tryz.prog:=⟨28,fun I=>zH I (Qp I),zf zha⟩
theorem zbg {b o r:Str} {e:Int} (h:zS b=.bad o e r):e≠0:=by
  have h1:=Y6 b
  rw [h] at h1
  exact(XA h1).2
def X4:ChR→Nat
  |.more _ h=>h
  |.over _ r=>r.length
  |.bad _ _ r=>r.length
theorem VF (o:Str) (h:Nat):outR (.more o h)=o∧X4 (.more o h)=h:=⟨rfl,rfl⟩
theorem VE (o r:Str):outR (.over o r)=o∧X4 (.over o r)=r.length:=⟨rfl,rfl⟩
theorem Rk (o r:Str) (e:Int):outR (.bad o e r)=o∧X4 (.bad o e r)=r.length:=⟨rfl,rfl⟩
theorem ze2 (b:Str) (x:ChR):rV b x=(b.length:Int) - X4 x:=by cases x<;>rfl
theorem zia (o:Str) (x:ChR):X4 (x.pre o)=X4 x:=by cases x<;>rfl
theorem QN: ∀ (f:Nat) (k:Int) (r:Str),(outR (Vf f k r)).length+X4 (Vf f k r)≤r.length
  |0,k,r=>by simp [Vf,outR,X4]
  | f+1,k,r=>by
    obtain⟨n,hn,h1,-,-,-⟩:=xY r
    have hl:(r.drop n).length=r.length - n:=List.length_drop
    have ih:=QN f (k+1) (r.drop n)
    rw [hl] at ih
    rw [Vf,hn,Int.toNat_natCast]
    repeat' split
    all_goals try simp only [VF,VE,Rk,hl,List.length_nil]
    all_goals omega
theorem ziB {k:Str→ChR} (hk: ∀ r,(outR (k r)).length+X4 (k r)≤r.length) (r:Str):(outR (endR k r)).length+X4 (endR k r)≤r.length:=by
  obtain⟨n,hn,h1,-,-,-⟩:=xY r
  have hl:(r.drop n).length=r.length - n:=List.length_drop
  have ih:=hk (r.drop n)
  rw [hl] at ih
  rw [endR,hn,Int.toNat_natCast]
  repeat' split
  all_goals try simp only [VF,VE,Rk,hl,List.length_nil]
  all_goals omega
theorem zbj: ∀ (f:Nat) (a:Int) (r:Str),(outR (UI f a r)).length+X4 (UI f a r)≤r.length
  |0,a,r=>by simp [UI,outR,X4]
  | f+1,a,r=>by
    obtain⟨n,hn,h1,-,-,-⟩:=xY r
    have hl:(r.drop n).length=r.length - n:=List.length_drop
    have ht:=QN f 0 (r.drop n)
    have he:=ziB (zbj f (a+(yL (zu r).1).1)) ((r.drop n).drop (yL (zu r).1).1.toNat)
    rw [List.length_drop,hl] at he
    rw [hl] at ht
    rw [UI,hn,Int.toNat_natCast]
    repeat' split
    all_goals try simp only [VF,VE,Rk,hl,List.length_nil,(ChR.zif _ r _).1,zia,List.length_append,List.length_take]
    all_goals omega
theorem zb5 (b:Str):0≤rV b (zS b)∧rV b (zS b)≤b.length∧(outR (zS b)).length≤b.length:=by
  have:=zbj (b.length+1) 0 b
  rw [ze2]
  unfold zS
  omega
theorem Xz: ∀ {r:Str} {s:Ch} {o rest:Str},wS s r=.over o rest→∃ n,n≤r.length∧rest=r.drop n
  |[],s,o,rest,h=>by cases h
  | c ::r,s,o,rest,h=>by
    rw [wS] at h
    split at h
    · cases h
    split at h
    · cases h;exact⟨1,by simp,rfl⟩
    · obtain⟨p,h1,_⟩:=ChR.zc3 h
      obtain⟨n,h2,h3⟩:=Xz h1
      exact⟨n+1,by rw [List.length_cons];omega,by rw [h3];rfl⟩
theorem zbf {b o r:Str} (h:zS b=.over o r):b.drop (rV b (zS b)).toNat=r:=by
  have h1:=Y6 b
  rw [h] at h1 ⊢
  obtain⟨n,h2,h3⟩:=Xz h1
  have:(rV b (.over o r)).toNat=n:=by rw [rV,h3,List.length_drop];omega
  rw [this,h3]
end Go.Proofs.YtmibhbdfigpkmaaGreatDoor
namespace Go.Proofs.YtmibhbdfigpkmaaGreatDoor
open Go Go.Sep Go.Ab
set_option maxRecDepth 100000
theorem zib (o:List Evt) (c:Int) (hneed:o.length≤1000000):Spc Tryz.prog 23 [.v (.one (.p (.int .i64 c))),.v (.one (.ptr 0 0))] [.pack [.obj 26 [(.row 1)],.row .evt 32 o]] (.ret (.tup [(.one (.row 1)),(.one (.p (.bool false)))])) [.pack [.obj 26 [.any]],.row .evt 32 ((o++[evF c]))]:=by
  refine spcG zi mixed Tryz.func23 (by kernel_rfl) { keep:=some [0,1,3,4]} [] (by kernel_rfl) ?_
  intro I X hI hX
  refine zh (.need (I.few (I.add (I.len (α:=Go.Ab.Evt) o) (I.len (α:=Go.Ab.Evt) ([(Go.Ab.Evt.mk (4:Int) (Hd.mk ([]:Str) ([]:Str) (0:Int) ([]:List Fld) (0:Int)) ([]:Str) (Go.Ab.Prt.mk ([]:Str) ([]:Str) ([]:Str) ([]:Str)) c)]:List Go.Ab.Evt))) 100000000) (.fin (.ret (.tup [(.one (.row 1)),(.one (.p (.bool Bool.false)))])) [(.pack [(.obj 26 [.any])]),(.row .evt 32 (I.app (α:=Go.Ab.Evt) o ([(Go.Ab.Evt.mk (4:Int) (Hd.mk ([]:Str) ([]:Str) (0:Int) ([]:List Fld) (0:Int)) ([]:Str) (Go.Ab.Prt.mk ([]:Str) ([]:Str) ([]:Str) ([]:Str)) c)]:List Go.Ab.Evt)))])) (by kernel_rfl) ?_
  simp only [zy]
  subst hI
  simp only [nrmA,nrmB,nrlB,reduceCtorEq]
  simp only [List.length_cons,List.length_nil]
  exact⟨by omega,rfl⟩
def qZ (I:Alg) (args:List D) (hp:List HO):Option CT:=match args,hp with
  |[.v (.one (.p (.int .i64 c))),.v (.one (.ptr 0 0))],[.pack [.obj 26 [(.row 1)],.row .evt 32 o]]=>(fun(o:List Evt) (c:Int)=>(some (.one ⟨I.hid (o.length≤1000000),(.ret (.tup [(.one (.row 1)),(.one (.p (.bool false)))])),[.pack [.obj 26 [.any]],.row .evt 32 (I.hid ((o++[evF c])))]⟩):Option CT)) o c
  |_,_=>none
theorem U8:zD Tryz.prog 23 (qZ alg):=by
  intro args hp r h
  unfold qZ at h
  split at h
  · cases h;exact fun hn=>zib _ _ hn
  · cases h
def qY:Know Tryz.prog:=⟨23,qZ,U8⟩
def Xa:Know Tryz.prog:=⟨23,fun I=>zH I (qZ I),zf U8⟩
theorem zfV (f:Nat) (r:Str):reqG (f+1) none r=
    if(zu r).2.2.2≠0 then([evF (zu r).2.2.2],false)
    else if(zu r).2.2.1=false then([],decide (r≠[]))
    else if(zu r).1=[] then reqG f none (r.drop (zu r).2.1.toNat)
    else if(firM (zu r).1).2≠0 then([evF (firM (zu r).1).2],false)
    else reqG f (some (firM (zu r).1).1) (r.drop (zu r).2.1.toNat):=by
  rw [reqG]
  cases hr:xE ln0 r with
  |more x=>rw [RS hr];simp
  | line t rest=>
    obtain⟨n,h1,h2,h3,rfl⟩:=VZ hr
    rw [h1]
    obtain⟨e1,e2⟩:=ziv t
    simp only [ne_eq,not_true_eq_false,if_false,Bool.true_eq_false,Int.toNat_natCast,e1]
    by_cases ht:t=[]
    · rw [if_pos ht,if_pos ht]
    rw [if_neg ht,if_neg ht]
    by_cases hb:(begM t).1=0
    · simp only [hb,not_true_eq_false,if_false,e2 hb]
    · simp only [hb,not_false_eq_true,if_true]
  |bad e rest=>obtain⟨n,h1,h2,h3,h4,rfl⟩:=zdk hr;rw [h1];simp [h2]
def reqH (f:Nat) (h:Hd) (rest:Str):List Evt × Bool:=
  if(uN h.minor h.fields).2≠0 then([evF (uN h.minor h.fields).2],false)
  else if 0≤(uN h.minor h.fields).1 then
    (if(uN h.minor h.fields).1≤rest.length then preG ([evH { h with length:=(uN h.minor h.fields).1}]++bodE (rest.take (uN h.minor h.fields).1.toNat)++[evE]) (reqG f none (rest.drop (uN h.minor h.fields).1.toNat))
    else([evH { h with length:=(uN h.minor h.fields).1}]++bodE rest,true))
  else if ZP (zS rest)≠0 then([evH { h with length:=(uN h.minor h.fields).1}]++bodE (outR (zS rest))++[evF (ZP (zS rest))],false)
  else if isR (zS rest)=false then([evH { h with length:=(uN h.minor h.fields).1}]++bodE (outR (zS rest)),true)
  else preG ([evH { h with length:=(uN h.minor h.fields).1}]++bodE (outR (zS rest))++[evE]) (reqG f none (rest.drop (rV rest (zS rest)).toNat))
theorem zfU (f:Nat) (h:Hd) (r:Str):reqG (f+1) (some h) r=
    if(zu r).2.2.2≠0 then([evF (zu r).2.2.2],false)
    else if(zu r).2.2.1=false then([],true)
    else if(zu r).1=[] then reqH f h (r.drop (zu r).2.1.toNat)
    else if h.fields.length=16 then([evF 8],false)
    else if(zM (zu r).1).2≠0 then([evF (zM (zu r).1).2],false)
    else reqG f (some { h with fields:=h.fields++[(zM (zu r).1).1]}) (r.drop (zu r).2.1.toNat):=by
  rw [reqG]
  cases hr:xE ln0 r with
  |more x=>rw [RS hr];simp
  | line t rest=>
    obtain⟨n,h1,h2,h3,rfl⟩:=VZ hr
    rw [h1]
    simp only [ne_eq,not_true_eq_false,if_false,Bool.true_eq_false,Int.toNat_natCast]
    by_cases ht:t=[]
    · rw [if_pos ht,if_pos ht]
      unfold reqH
      rw [zik]
      generalize r.drop n=rest
      split
      · rfl
      split
      · split
        · simp [preG]
        · rfl
      · cases hc:zS rest with
        |more o k=>simp [ZP,isR,outR,preG]
        | bad o e r2=>
          have:=zbg hc
          simp [ZP,outR,preG,this]
        | over o r2=>
          have hd:=zbf hc
          rw [hc] at hd
          simp [ZP,isR,outR,preG,hd]
    · rw [if_neg ht,if_neg ht]
  |bad e rest=>obtain⟨n,h1,h2,h3,h4,rfl⟩:=zdk hr;rw [h1];simp [h2]
theorem zkd (l:Str):bodE l=if 0<(l.length:Int) then [evB l] else []:=by
  unfold bodE
  cases l with
  |nil=>rfl
  |cons c r=>rw [if_neg (by simp),if_pos (by rw [List.length_cons];omega)]
theorem zkZ (s:Str):(firM s).1.fields=[]:=by
  unfold firM
  split
  · repeat' split
    all_goals rfl
  · rfl
def zeS:Cfg:= { nr:=[15],sl:=[⟨25,3,.fld,some 51⟩,⟨26,0,.evt,some 32⟩]}
set_option maxHeartbeats 8000000 in
theorem zfT (b:Str) (hneed:b.length≤200000):Spc Tryz.prog 10 [.v (.one (.p (.list .byte b)))] [] (.ret (.tup [(.one (.row 0)),(.one (.p (.bool ((reqG (b.length+1) none b).2))))])) [.row .evt 32 ((reqG (b.length+1) none b).1)]:=by
  generalize hR:reqG (b.length+1) none b=R
  obtain⟨RE,RB⟩:=R
  refine spcG zi mixed Tryz.func10 (by kernel_rfl) { zeS with keep:=some [0,2,3,4,5,6,7,8,9,10,11,12,13,14,15,16]} [qY,vF,vC,qy,qx,ZM,ZL,tH,tC,zb2,zb1,qY,Xa] (by kernel_rfl) ?_
  intro I X hI hX
  refine zh (.code 0 [1,1,1,1,0] ⟨[(6,(.v (.one (.p (.int .i64 0))))),(5,(.v (.one (.fn 23 [(.ptr 0 0)])))),(4,(.v (.one (.ptr 0 0)))),(3,(.v (.one (.p (.val (.bool .false)))))),(2,(.v (.one .nilS))),(0,(.v (.one (.p (.list .byte b)))))],[(.obj 26 [.nilS])],188,none⟩) (by kernel_rfl) ?_
  simp only [zy]
  refine zG hI zi mixed [vF,vC,qy,qx,ZM,ZL,tH,tC,zb2,zb1,qY,Xa] hX [0,4,5,6] (fun(g:Nat × List Evt)=>match g with|(i,o)=>i≤b.length∧o.length≤4 * i∧∃ f,(b.drop i).length<f∧preG o (reqG f none (b.drop i))=(RE,RB)) (fun(g:Nat × List Evt)=>match g with|(i,o)=>⟨[(0,.v (.one (.p (.list .byte b)))),(4,.v (.one (.ptr 0 0))),(5,.v (.one (.fn 23 [.ptr 0 0]))),(6,.v (.one (.p (.int .i64 i))))],[.pack [.obj 26 [(.row 1)],.row .evt 32 o]],188,none⟩) (fun(g:Nat × List Evt)=>match g with|(i,o)=>b.length - i) (0,[]) (by kernel_rfl) (by kernel_rfl) ?_ ?_
  · exact⟨Nat.zero_le _,Nat.zero_le _,b.length+1,Nat.lt_succ_self _,by rw [← hR];simp [preG]⟩
  rintro⟨i,o⟩ ⟨h1,h2,f,h3,h4⟩ A hA
  simp only at hA h1 h2 h3 h4
  have keyF: ∀ (m t:Str) (mi le:Int) (j g:Nat) (st:St),i<j→j≤b.length→(b.drop j).length<g→preG o (reqG g (some ⟨m,t,mi,[],le⟩) (b.drop j))=(RE,RB)→cutM { zeS with keep:=some [0,2,3,4,5,6,7,8,9,10,11,12,13,14,15,16]} 0 [0,4,5,6,11] st=some ⟨[(0,.v (.one (.p (.list .byte b)))),(4,.v (.one (.ptr 0 0))),(5,.v (.one (.fn 23 [.ptr 0 0]))),(6,.v (.one (.p (.int .i64 j)))),(11,.v (.one (.ptr 1 0)))],[.pack [.obj 26 [(.row 1)],.row .evt 32 o],.pack [.obj 25 [(.p (.str m)),(.p (.str t)),(.p (.int .i64 mi)),(.row 1),(.p (.int .i64 le))],.row .fld 51 ([])]],188,none⟩→Ok Tryz.prog X (fun o h=>o=(.ret (.tup [(.one (.row 0)),(.one (.p (.bool RB)))]))∧h=[.row .evt 32 RE]) (leaf I tab { zeS with keep:=some [0,2,3,4,5,6,7,8,9,10,11,12,13,14,15,16]} (round I tab { zeS with keep:=some [0,2,3,4,5,6,7,8,9,10,11,12,13,14,15,16]} 0 [0,4,5,6] A [⟨Uw Tryz.f10,finK I tab { zeS with keep:=some [0,2,3,4,5,6,7,8,9,10,11,12,13,14,15,16]} 0 Tryz.f10⟩] 0 [1,1,1,1,0]::[⟨Uw Tryz.f10,finK I tab { zeS with keep:=some [0,2,3,4,5,6,7,8,9,10,11,12,13,14,15,16]} 0 Tryz.f10⟩]) 0 [0,1,1,1,1,1,1,1,0,0] st):=by
    intro m t mi le j g st hj1 hj2 hg1 hg2 hst
    refine zG hI zi mixed [vF,vC,qy,qx,ZM,ZL,tH,tC,zb2,zb1,qY,Xa] hX [0,4,5,6,11] (fun(g:Nat × List Fld)=>match g with|(j,fs)=>i<j∧j≤b.length∧fs.length≤16∧(∀ x ∈ fs,x.name.length≤1000000∧x.value.length≤1000000)∧∃ g,(b.drop j).length<g∧preG o (reqG g (some ⟨m,t,mi,fs,le⟩) (b.drop j))=(RE,RB)) (fun(g:Nat × List Fld)=>match g with|(j,fs)=>⟨[(0,.v (.one (.p (.list .byte b)))),(4,.v (.one (.ptr 0 0))),(5,.v (.one (.fn 23 [.ptr 0 0]))),(6,.v (.one (.p (.int .i64 j)))),(11,.v (.one (.ptr 1 0)))],[.pack [.obj 26 [(.row 1)],.row .evt 32 o],.pack [.obj 25 [(.p (.str m)),(.p (.str t)),(.p (.int .i64 mi)),(.row 1),(.p (.int .i64 le))],.row .fld 51 fs]],188,none⟩) (fun(g:Nat × List Fld)=>match g with|(j,fs)=>b.length - j) (j,[]) (by kernel_rfl) hst ?_ ?_
    · exact⟨hj1,hj2,Nat.zero_le _,(fun x h=>by cases h),g,hg1,hg2⟩
    clear hg1 hg2 hst hj1 hj2
    rintro⟨j,fs⟩ ⟨k1,k2,k3,k4,g,k5,k6⟩ B hB
    simp only at hB k1 k2 k3 k4 k5 k6
    refine zh (let y13:=I.cut (α:=UInt8) b (Int.ofNat j) (I.len (α:=UInt8) b);let y0:=I.add (Nat.cast j) (I.hid (α:=Int) (Prod.fst (Prod.snd (zu y13))));let y1:=I.hid (α:=Int) (Prod.fst (uN mi fs));let y2:=I.cut (α:=UInt8) b y0 (I.len (α:=UInt8) b);let y3:=I.len (α:=Go.Ab.Evt) ([(Go.Ab.Evt.mk (3:Int) (Hd.mk ([]:Str) ([]:Str) (0:Int) ([]:List Fld) (0:Int)) ([]:Str) (Go.Ab.Prt.mk ([]:Str) ([]:Str) ([]:Str) ([]:Str)) (0:Int))]:List Go.Ab.Evt);let y4:=I.len (α:=Go.Ab.Evt) (I.app (α:=Go.Ab.Evt) o ([(Go.Ab.Evt.mk (1:Int) (Hd.mk m t mi fs y1) ([]:Str) (Go.Ab.Prt.mk ([]:Str) ([]:Str) ([]:Str) ([]:Str)) (0:Int))]:List Go.Ab.Evt));let y5:HO:=.pack [(.obj 26 [(.row 1)]),(.row .evt 32 (I.app (α:=Go.Ab.Evt) (I.app (α:=Go.Ab.Evt) o ([(Go.Ab.Evt.mk (1:Int) (Hd.mk m t mi fs y1) ([]:Str) (Go.Ab.Prt.mk ([]:Str) ([]:Str) ([]:Str) ([]:Str)) (0:Int))]:List Go.Ab.Evt)) ([(Go.Ab.Evt.mk (3:Int) (Hd.mk ([]:Str) ([]:Str) (0:Int) ([]:List Fld) (0:Int)) ([]:Str) (Go.Ab.Prt.mk ([]:Str) ([]:Str) ([]:Str) ([]:Str)) (0:Int))]:List Go.Ab.Evt)))];let y6:=I.hid (α:=Str) (Prod.fst (zu y13));let y7:=I.hid (α:=(Prop)) (LE.le (List.length (I.app (α:=Go.Ab.Evt) o ([(Go.Ab.Evt.mk (1:Int) (Hd.mk m t mi fs y1) ([]:Str) (Go.Ab.Prt.mk ([]:Str) ([]:Str) ([]:Str) ([]:Str)) (0:Int))]:List Go.Ab.Evt))) 1000000);let y8:HO:=.row .evt 32 (I.app (α:=Go.Ab.Evt) o ([(Go.Ab.Evt.mk (1:Int) (Hd.mk m t mi fs y1) ([]:Str) (Go.Ab.Prt.mk ([]:Str) ([]:Str) ([]:Str) ([]:Str)) (0:Int))]:List Go.Ab.Evt));let y9:=I.hid (α:=Int) (Prod.snd (uN mi fs));let y10:HO:=.row .evt 32 (I.hid (α:=(List Go.Ab.Evt)) (HAppend.hAppend (I.app (α:=Go.Ab.Evt) o ([(Go.Ab.Evt.mk (1:Int) (Hd.mk m t mi fs y1) ([]:Str) (Go.Ab.Prt.mk ([]:Str) ([]:Str) ([]:Str) ([]:Str)) (0:Int))]:List Go.Ab.Evt)) ([(evF y9)]:List Go.Ab.Evt)));let y11:=I.cut (α:=UInt8) b y0 (I.add y0 y1);let y12:=I.hid (α:=Str) (outR (zS y2));let y14:=I.ile y1 (I.sub (I.len (α:=UInt8) b) y0);let y15:=I.hid (α:=(Prop)) (LE.le (List.length o) 1000000);let y16:=I.hid (α:=Int) (ZP (zS y2));let y17:=I.add y0 (I.hid (α:=Int) (rV y2 (zS y2)));let y18:=I.hid (α:=Int) (Prod.snd (Prod.snd (Prod.snd (zu y13))));let y19:=I.cutb y0 (I.len (α:=UInt8) b) (I.len (α:=UInt8) b);let y20:=I.hid (α:=Str) (Fld.value (Prod.fst (zM y6)));let y21:=I.hid (α:=Str) (Fld.name (Prod.fst (zM y6)));let y22:=I.bnot (I.hid (α:=Bool) (isR (zS y2)));let y23:=I.hid (α:=Int) (Prod.snd (zM y6));let y24:=I.inr Go.IntKind.i64 (I.add y0 y1);.need (I.cutb (Int.ofNat j) (I.len (α:=UInt8) b) (I.len (α:=UInt8) b)) (.need (I.hid (α:=(Prop)) (LE.le (List.length y13) 1000000)) (.br (I.bnot (I.ieq y18 0)) (.need y15 (.fin (.ret (.tup [(.one (.row 0)),(.one (.p (.bool Bool.false)))])) [(.row .evt 32 (I.hid (α:=(List Go.Ab.Evt)) (HAppend.hAppend o ([(evF y18)]:List Go.Ab.Evt))))])) (.br (I.bnot (I.hid (α:=Bool) (Prod.fst (Prod.snd (Prod.snd (zu y13)))))) (.fin (.ret (.tup [(.one (.row 0)),(.one (.p (.bool Bool.true)))])) [(.row .evt 32 o)]) (.need (I.inr Go.IntKind.i64 y0) (.br (I.seq y6 ([]:Str)) (.need (I.hid (α:=(Prop)) (FsOk fs)) (.br (I.bnot (I.ieq y9 0)) (.need y15 (.fin (.ret (.tup [(.one (.row 0)),(.one (.p (.bool Bool.false)))])) [(.row .evt 32 (I.hid (α:=(List Go.Ab.Evt)) (HAppend.hAppend o ([(evF y9)]:List Go.Ab.Evt))))])) (.need (I.few (I.add (I.len (α:=Go.Ab.Evt) o) (I.len (α:=Go.Ab.Evt) ([(Go.Ab.Evt.mk (1:Int) (Hd.mk m t mi fs y1) ([]:Str) (Go.Ab.Prt.mk ([]:Str) ([]:Str) ([]:Str) ([]:Str)) (0:Int))]:List Go.Ab.Evt))) 100000000) (.br (I.ile 0 y1) (.need (I.inr Go.IntKind.i64 (I.sub (I.len (α:=UInt8) b) y0)) (.br y14 (.need y24 (.need (I.cutb y0 (I.add y0 y1) (I.len (α:=UInt8) b)) (.need (I.few (I.add (I.len (α:=UInt8) ([]:Str)) (I.len (α:=UInt8) y11)) 140737488355328) (.need y24 (.br (I.ilt 0 (I.len (α:=UInt8) (I.app (α:=UInt8) ([]:Str) y11))) (.need (I.few (I.add y4 (I.len (α:=Go.Ab.Evt) ([(Go.Ab.Evt.mk (2:Int) (Hd.mk ([]:Str) ([]:Str) (0:Int) ([]:List Fld) (0:Int)) (I.app (α:=UInt8) ([]:Str) y11) (Go.Ab.Prt.mk ([]:Str) ([]:Str) ([]:Str) ([]:Str)) (0:Int))]:List Go.Ab.Evt))) 100000000) (.br (I.bnot (I.ieq y9 0)) (.need (I.hid (α:=(Prop)) (LE.le (List.length (I.app (α:=Go.Ab.Evt) (I.app (α:=Go.Ab.Evt) o ([(Go.Ab.Evt.mk (1:Int) (Hd.mk m t mi fs y1) ([]:Str) (Go.Ab.Prt.mk ([]:Str) ([]:Str) ([]:Str) ([]:Str)) (0:Int))]:List Go.Ab.Evt)) ([(Go.Ab.Evt.mk (2:Int) (Hd.mk ([]:Str) ([]:Str) (0:Int) ([]:List Fld) (0:Int)) (I.app (α:=UInt8) ([]:Str) y11) (Go.Ab.Prt.mk ([]:Str) ([]:Str) ([]:Str) ([]:Str)) (0:Int))]:List Go.Ab.Evt))) 1000000)) (.fin (.ret (.tup [(.one (.row 0)),(.one (.p (.bool Bool.false)))])) [(.row .evt 32 (I.hid (α:=(List Go.Ab.Evt)) (HAppend.hAppend (I.app (α:=Go.Ab.Evt) (I.app (α:=Go.Ab.Evt) o ([(Go.Ab.Evt.mk (1:Int) (Hd.mk m t mi fs y1) ([]:Str) (Go.Ab.Prt.mk ([]:Str) ([]:Str) ([]:Str) ([]:Str)) (0:Int))]:List Go.Ab.Evt)) ([(Go.Ab.Evt.mk (2:Int) (Hd.mk ([]:Str) ([]:Str) (0:Int) ([]:List Fld) (0:Int)) (I.app (α:=UInt8) ([]:Str) y11) (Go.Ab.Prt.mk ([]:Str) ([]:Str) ([]:Str) ([]:Str)) (0:Int))]:List Go.Ab.Evt)) ([(evF y9)]:List Go.Ab.Evt))))])) (.br (I.bnot y14) (.fin (.ret (.tup [(.one (.row 0)),(.one (.p (.bool Bool.true)))])) [(.row .evt 32 (I.app (α:=Go.Ab.Evt) (I.app (α:=Go.Ab.Evt) o ([(Go.Ab.Evt.mk (1:Int) (Hd.mk m t mi fs y1) ([]:Str) (Go.Ab.Prt.mk ([]:Str) ([]:Str) ([]:Str) ([]:Str)) (0:Int))]:List Go.Ab.Evt)) ([(Go.Ab.Evt.mk (2:Int) (Hd.mk ([]:Str) ([]:Str) (0:Int) ([]:List Fld) (0:Int)) (I.app (α:=UInt8) ([]:Str) y11) (Go.Ab.Prt.mk ([]:Str) ([]:Str) ([]:Str) ([]:Str)) (0:Int))]:List Go.Ab.Evt)))]) (.need (I.few (I.add (I.len (α:=Go.Ab.Evt) (I.app (α:=Go.Ab.Evt) (I.app (α:=Go.Ab.Evt) o ([(Go.Ab.Evt.mk (1:Int) (Hd.mk m t mi fs y1) ([]:Str) (Go.Ab.Prt.mk ([]:Str) ([]:Str) ([]:Str) ([]:Str)) (0:Int))]:List Go.Ab.Evt)) ([(Go.Ab.Evt.mk (2:Int) (Hd.mk ([]:Str) ([]:Str) (0:Int) ([]:List Fld) (0:Int)) (I.app (α:=UInt8) ([]:Str) y11) (Go.Ab.Prt.mk ([]:Str) ([]:Str) ([]:Str) ([]:Str)) (0:Int))]:List Go.Ab.Evt))) y3) 100000000) (.need (A ⟨[(0,(.v (.one (.p (.list .byte b))))),(4,(.v (.one (.ptr 0 0)))),(5,(.v (.one (.fn 23 [(.ptr 0 0)])))),(6,(.v (.one (.p (.int .i64 (I.add y0 y1))))))],[(.pack [(.obj 26 [(.row 1)]),(.row .evt 32 (I.app (α:=Go.Ab.Evt) (I.app (α:=Go.Ab.Evt) (I.app (α:=Go.Ab.Evt) o ([(Go.Ab.Evt.mk (1:Int) (Hd.mk m t mi fs y1) ([]:Str) (Go.Ab.Prt.mk ([]:Str) ([]:Str) ([]:Str) ([]:Str)) (0:Int))]:List Go.Ab.Evt)) ([(Go.Ab.Evt.mk (2:Int) (Hd.mk ([]:Str) ([]:Str) (0:Int) ([]:List Fld) (0:Int)) (I.app (α:=UInt8) ([]:Str) y11) (Go.Ab.Prt.mk ([]:Str) ([]:Str) ([]:Str) ([]:Str)) (0:Int))]:List Go.Ab.Evt)) ([(Go.Ab.Evt.mk (3:Int) (Hd.mk ([]:Str) ([]:Str) (0:Int) ([]:List Fld) (0:Int)) ([]:Str) (Go.Ab.Prt.mk ([]:Str) ([]:Str) ([]:Str) ([]:Str)) (0:Int))]:List Go.Ab.Evt)))])],188,none⟩) .qed))))) (.br (I.bnot (I.ieq y9 0)) (.need y7 (.fin (.ret (.tup [(.one (.row 0)),(.one (.p (.bool Bool.false)))])) [y10])) (.br (I.bnot y14) (.fin (.ret (.tup [(.one (.row 0)),(.one (.p (.bool Bool.true)))])) [y8]) (.need (I.few (I.add y4 y3) 100000000) (.need (A ⟨[(0,(.v (.one (.p (.list .byte b))))),(4,(.v (.one (.ptr 0 0)))),(5,(.v (.one (.fn 23 [(.ptr 0 0)])))),(6,(.v (.one (.p (.int .i64 (I.add y0 y1))))))],[y5],188,none⟩) .qed))))))))) (.need y19 (.need (I.few (I.add (I.len (α:=UInt8) ([]:Str)) (I.len (α:=UInt8) y2)) 140737488355328) (.br (I.ilt 0 (I.len (α:=UInt8) (I.app (α:=UInt8) ([]:Str) y2))) (.need (I.few (I.add y4 (I.len (α:=Go.Ab.Evt) ([(Go.Ab.Evt.mk (2:Int) (Hd.mk ([]:Str) ([]:Str) (0:Int) ([]:List Fld) (0:Int)) (I.app (α:=UInt8) ([]:Str) y2) (Go.Ab.Prt.mk ([]:Str) ([]:Str) ([]:Str) ([]:Str)) (0:Int))]:List Go.Ab.Evt))) 100000000) (.br (I.bnot (I.ieq y9 0)) (.need (I.hid (α:=(Prop)) (LE.le (List.length (I.app (α:=Go.Ab.Evt) (I.app (α:=Go.Ab.Evt) o ([(Go.Ab.Evt.mk (1:Int) (Hd.mk m t mi fs y1) ([]:Str) (Go.Ab.Prt.mk ([]:Str) ([]:Str) ([]:Str) ([]:Str)) (0:Int))]:List Go.Ab.Evt)) ([(Go.Ab.Evt.mk (2:Int) (Hd.mk ([]:Str) ([]:Str) (0:Int) ([]:List Fld) (0:Int)) (I.app (α:=UInt8) ([]:Str) y2) (Go.Ab.Prt.mk ([]:Str) ([]:Str) ([]:Str) ([]:Str)) (0:Int))]:List Go.Ab.Evt))) 1000000)) (.fin (.ret (.tup [(.one (.row 0)),(.one (.p (.bool Bool.false)))])) [(.row .evt 32 (I.hid (α:=(List Go.Ab.Evt)) (HAppend.hAppend (I.app (α:=Go.Ab.Evt) (I.app (α:=Go.Ab.Evt) o ([(Go.Ab.Evt.mk (1:Int) (Hd.mk m t mi fs y1) ([]:Str) (Go.Ab.Prt.mk ([]:Str) ([]:Str) ([]:Str) ([]:Str)) (0:Int))]:List Go.Ab.Evt)) ([(Go.Ab.Evt.mk (2:Int) (Hd.mk ([]:Str) ([]:Str) (0:Int) ([]:List Fld) (0:Int)) (I.app (α:=UInt8) ([]:Str) y2) (Go.Ab.Prt.mk ([]:Str) ([]:Str) ([]:Str) ([]:Str)) (0:Int))]:List Go.Ab.Evt)) ([(evF y9)]:List Go.Ab.Evt))))])) (.br (I.bnot y14) (.fin (.ret (.tup [(.one (.row 0)),(.one (.p (.bool Bool.true)))])) [(.row .evt 32 (I.app (α:=Go.Ab.Evt) (I.app (α:=Go.Ab.Evt) o ([(Go.Ab.Evt.mk (1:Int) (Hd.mk m t mi fs y1) ([]:Str) (Go.Ab.Prt.mk ([]:Str) ([]:Str) ([]:Str) ([]:Str)) (0:Int))]:List Go.Ab.Evt)) ([(Go.Ab.Evt.mk (2:Int) (Hd.mk ([]:Str) ([]:Str) (0:Int) ([]:List Fld) (0:Int)) (I.app (α:=UInt8) ([]:Str) y2) (Go.Ab.Prt.mk ([]:Str) ([]:Str) ([]:Str) ([]:Str)) (0:Int))]:List Go.Ab.Evt)))]) (.need (I.few (I.add (I.len (α:=Go.Ab.Evt) (I.app (α:=Go.Ab.Evt) (I.app (α:=Go.Ab.Evt) o ([(Go.Ab.Evt.mk (1:Int) (Hd.mk m t mi fs y1) ([]:Str) (Go.Ab.Prt.mk ([]:Str) ([]:Str) ([]:Str) ([]:Str)) (0:Int))]:List Go.Ab.Evt)) ([(Go.Ab.Evt.mk (2:Int) (Hd.mk ([]:Str) ([]:Str) (0:Int) ([]:List Fld) (0:Int)) (I.app (α:=UInt8) ([]:Str) y2) (Go.Ab.Prt.mk ([]:Str) ([]:Str) ([]:Str) ([]:Str)) (0:Int))]:List Go.Ab.Evt))) y3) 100000000) (.need (A ⟨[(0,(.v (.one (.p (.list .byte b))))),(4,(.v (.one (.ptr 0 0)))),(5,(.v (.one (.fn 23 [(.ptr 0 0)])))),(6,(.v (.one (.p (.int .i64 (I.len (α:=UInt8) b))))))],[(.pack [(.obj 26 [(.row 1)]),(.row .evt 32 (I.app (α:=Go.Ab.Evt) (I.app (α:=Go.Ab.Evt) (I.app (α:=Go.Ab.Evt) o ([(Go.Ab.Evt.mk (1:Int) (Hd.mk m t mi fs y1) ([]:Str) (Go.Ab.Prt.mk ([]:Str) ([]:Str) ([]:Str) ([]:Str)) (0:Int))]:List Go.Ab.Evt)) ([(Go.Ab.Evt.mk (2:Int) (Hd.mk ([]:Str) ([]:Str) (0:Int) ([]:List Fld) (0:Int)) (I.app (α:=UInt8) ([]:Str) y2) (Go.Ab.Prt.mk ([]:Str) ([]:Str) ([]:Str) ([]:Str)) (0:Int))]:List Go.Ab.Evt)) ([(Go.Ab.Evt.mk (3:Int) (Hd.mk ([]:Str) ([]:Str) (0:Int) ([]:List Fld) (0:Int)) ([]:Str) (Go.Ab.Prt.mk ([]:Str) ([]:Str) ([]:Str) ([]:Str)) (0:Int))]:List Go.Ab.Evt)))])],188,none⟩) .qed))))) (.br (I.bnot (I.ieq y9 0)) (.need y7 (.fin (.ret (.tup [(.one (.row 0)),(.one (.p (.bool Bool.false)))])) [y10])) (.br (I.bnot y14) (.fin (.ret (.tup [(.one (.row 0)),(.one (.p (.bool Bool.true)))])) [y8]) (.need (I.few (I.add y4 y3) 100000000) (.need (A ⟨[(0,(.v (.one (.p (.list .byte b))))),(4,(.v (.one (.ptr 0 0)))),(5,(.v (.one (.fn 23 [(.ptr 0 0)])))),(6,(.v (.one (.p (.int .i64 (I.len (α:=UInt8) b))))))],[y5],188,none⟩) .qed))))))))) (.need y19 (.need (I.hid (α:=(Prop)) (LE.le (List.length y2) 1000000)) (.need (I.inr Go.IntKind.i64 y17) (.br (I.ilt 0 (I.len (α:=UInt8) y12)) (.need (I.few (I.add y4 (I.len (α:=Go.Ab.Evt) ([(Go.Ab.Evt.mk (2:Int) (Hd.mk ([]:Str) ([]:Str) (0:Int) ([]:List Fld) (0:Int)) y12 (Go.Ab.Prt.mk ([]:Str) ([]:Str) ([]:Str) ([]:Str)) (0:Int))]:List Go.Ab.Evt))) 100000000) (.br (I.bnot (I.ieq y16 0)) (.need (I.hid (α:=(Prop)) (LE.le (List.length (I.app (α:=Go.Ab.Evt) (I.app (α:=Go.Ab.Evt) o ([(Go.Ab.Evt.mk (1:Int) (Hd.mk m t mi fs y1) ([]:Str) (Go.Ab.Prt.mk ([]:Str) ([]:Str) ([]:Str) ([]:Str)) (0:Int))]:List Go.Ab.Evt)) ([(Go.Ab.Evt.mk (2:Int) (Hd.mk ([]:Str) ([]:Str) (0:Int) ([]:List Fld) (0:Int)) y12 (Go.Ab.Prt.mk ([]:Str) ([]:Str) ([]:Str) ([]:Str)) (0:Int))]:List Go.Ab.Evt))) 1000000)) (.fin (.ret (.tup [(.one (.row 0)),(.one (.p (.bool Bool.false)))])) [(.row .evt 32 (I.hid (α:=(List Go.Ab.Evt)) (HAppend.hAppend (I.app (α:=Go.Ab.Evt) (I.app (α:=Go.Ab.Evt) o ([(Go.Ab.Evt.mk (1:Int) (Hd.mk m t mi fs y1) ([]:Str) (Go.Ab.Prt.mk ([]:Str) ([]:Str) ([]:Str) ([]:Str)) (0:Int))]:List Go.Ab.Evt)) ([(Go.Ab.Evt.mk (2:Int) (Hd.mk ([]:Str) ([]:Str) (0:Int) ([]:List Fld) (0:Int)) y12 (Go.Ab.Prt.mk ([]:Str) ([]:Str) ([]:Str) ([]:Str)) (0:Int))]:List Go.Ab.Evt)) ([(evF y16)]:List Go.Ab.Evt))))])) (.br y22 (.fin (.ret (.tup [(.one (.row 0)),(.one (.p (.bool Bool.true)))])) [(.row .evt 32 (I.app (α:=Go.Ab.Evt) (I.app (α:=Go.Ab.Evt) o ([(Go.Ab.Evt.mk (1:Int) (Hd.mk m t mi fs y1) ([]:Str) (Go.Ab.Prt.mk ([]:Str) ([]:Str) ([]:Str) ([]:Str)) (0:Int))]:List Go.Ab.Evt)) ([(Go.Ab.Evt.mk (2:Int) (Hd.mk ([]:Str) ([]:Str) (0:Int) ([]:List Fld) (0:Int)) y12 (Go.Ab.Prt.mk ([]:Str) ([]:Str) ([]:Str) ([]:Str)) (0:Int))]:List Go.Ab.Evt)))]) (.need (I.few (I.add (I.len (α:=Go.Ab.Evt) (I.app (α:=Go.Ab.Evt) (I.app (α:=Go.Ab.Evt) o ([(Go.Ab.Evt.mk (1:Int) (Hd.mk m t mi fs y1) ([]:Str) (Go.Ab.Prt.mk ([]:Str) ([]:Str) ([]:Str) ([]:Str)) (0:Int))]:List Go.Ab.Evt)) ([(Go.Ab.Evt.mk (2:Int) (Hd.mk ([]:Str) ([]:Str) (0:Int) ([]:List Fld) (0:Int)) y12 (Go.Ab.Prt.mk ([]:Str) ([]:Str) ([]:Str) ([]:Str)) (0:Int))]:List Go.Ab.Evt))) y3) 100000000) (.need (A ⟨[(0,(.v (.one (.p (.list .byte b))))),(4,(.v (.one (.ptr 0 0)))),(5,(.v (.one (.fn 23 [(.ptr 0 0)])))),(6,(.v (.one (.p (.int .i64 y17)))))],[(.pack [(.obj 26 [(.row 1)]),(.row .evt 32 (I.app (α:=Go.Ab.Evt) (I.app (α:=Go.Ab.Evt) (I.app (α:=Go.Ab.Evt) o ([(Go.Ab.Evt.mk (1:Int) (Hd.mk m t mi fs y1) ([]:Str) (Go.Ab.Prt.mk ([]:Str) ([]:Str) ([]:Str) ([]:Str)) (0:Int))]:List Go.Ab.Evt)) ([(Go.Ab.Evt.mk (2:Int) (Hd.mk ([]:Str) ([]:Str) (0:Int) ([]:List Fld) (0:Int)) y12 (Go.Ab.Prt.mk ([]:Str) ([]:Str) ([]:Str) ([]:Str)) (0:Int))]:List Go.Ab.Evt)) ([(Go.Ab.Evt.mk (3:Int) (Hd.mk ([]:Str) ([]:Str) (0:Int) ([]:List Fld) (0:Int)) ([]:Str) (Go.Ab.Prt.mk ([]:Str) ([]:Str) ([]:Str) ([]:Str)) (0:Int))]:List Go.Ab.Evt)))])],188,none⟩) .qed))))) (.br (I.bnot (I.ieq y16 0)) (.need y7 (.fin (.ret (.tup [(.one (.row 0)),(.one (.p (.bool Bool.false)))])) [(.row .evt 32 (I.hid (α:=(List Go.Ab.Evt)) (HAppend.hAppend (I.app (α:=Go.Ab.Evt) o ([(Go.Ab.Evt.mk (1:Int) (Hd.mk m t mi fs y1) ([]:Str) (Go.Ab.Prt.mk ([]:Str) ([]:Str) ([]:Str) ([]:Str)) (0:Int))]:List Go.Ab.Evt)) ([(evF y16)]:List Go.Ab.Evt))))])) (.br y22 (.fin (.ret (.tup [(.one (.row 0)),(.one (.p (.bool Bool.true)))])) [y8]) (.need (I.few (I.add y4 y3) 100000000) (.need (A ⟨[(0,(.v (.one (.p (.list .byte b))))),(4,(.v (.one (.ptr 0 0)))),(5,(.v (.one (.fn 23 [(.ptr 0 0)])))),(6,(.v (.one (.p (.int .i64 y17)))))],[y5],188,none⟩) .qed)))))))))))) (.br (I.ieq (I.len (α:=Fld) fs) 16) (.need y15 (.fin (.ret (.tup [(.one (.row 0)),(.one (.p (.bool Bool.false)))])) [(.row .evt 32 (I.hid (α:=(List Go.Ab.Evt)) (HAppend.hAppend o ([(evF (8:Int))]:List Go.Ab.Evt))))])) (.need (I.hid (α:=(Prop)) (LE.le (List.length y6) 1000000)) (.br (I.bnot (I.ieq y23 0)) (.need y15 (.fin (.ret (.tup [(.one (.row 0)),(.one (.p (.bool Bool.false)))])) [(.row .evt 32 (I.hid (α:=(List Go.Ab.Evt)) (HAppend.hAppend o ([(evF y23)]:List Go.Ab.Evt))))])) (.need (I.few (I.add (I.len (α:=Fld) fs) (I.len (α:=Fld) ([(Fld.mk y21 y20)]:List Fld))) 100000000) (.need (B ⟨[(0,(.v (.one (.p (.list .byte b))))),(4,(.v (.one (.ptr 0 0)))),(5,(.v (.one (.fn 23 [(.ptr 0 0)])))),(6,(.v (.one (.p (.int .i64 y0))))),(11,(.v (.one (.ptr 1 0))))],[(.pack [(.obj 26 [(.row 1)]),(.row .evt 32 o)]),(.pack [(.obj 25 [(.p (.str m)),(.p (.str t)),(.p (.int .i64 mi)),(.row 1),(.p (.int .i64 le))]),(.row .fld 51 (I.app (α:=Fld) fs ([(Fld.mk y21 y20)]:List Fld)))])],188,none⟩) .qed))))))))))) (by kernel_rfl) ?_
    simp only [zy]
    have hh: ∀ {α:Type} (x:α),I.hid x=x:=by subst hI;intros;rfl
    have hcut: ∀ j:Nat,I.cut b (j:Int) (I.len b)=b.drop j:=fun j=>by
      subst hI
      rw [xg,zU,Int.toNat_natCast,Int.toNat_natCast]
      exact List.take_of_length_le (by rw [List.length_drop];exact Nat.le_refl _)
    have hadd: ∀ j k:Nat,I.add (j:Int) (k:Int)=((j+k:Nat):Int):=fun j k=>by subst hI;rw [xK];omega
    have hcut0:I.cut b (Int.ofNat j) (I.len b)=b.drop j:=hcut j
    simp only [hcut0,hh]
    obtain⟨n,hn,hn1,hn2,hn3,hn4⟩:=xY (b.drop j)
    obtain⟨g,rfl⟩: ∃ g',g=g'+1:=⟨g - 1,by omega⟩
    rw [zfU] at k6
    unfold reqH at k6
    rw [List.length_drop] at k5 hn1
    simp only [hn,hadd,hcut,Int.toNat_natCast,List.drop_drop] at k6 ⊢
    have hll:=tu (b.drop j)
    rw [List.length_drop] at hll
    generalize zu (b.drop j)=x at *
    obtain⟨t',n',ok,e⟩:=x
    simp only at *
    subst hn
    have hpl:=zas t'
    have hfs:FsOk fs:=⟨by omega,k4⟩
    have hcl:=zb5 (b.drop (j+n))
    rw [List.length_drop] at hcl
    generalize uN mi fs=lh at *
    obtain⟨k,kc⟩:=lh
    simp only at *
    generalize rV (b.drop (j+n)) (zS (b.drop (j+n)))=ur at *
    generalize zS (b.drop (j+n))=R at *
    generalize outR R=ro at *
    generalize isR R=ri at *
    generalize ZP R=rc at *
    have hle:(((b.drop (j+n)).length:Nat):Int)=(b.length:Int) - ((j+n:Nat):Int):=by rw [List.length_drop];omega
    rw [hle] at k6
    simp only [zkd,Yp] at k6
    have hBn:e=0→ok=true→¬ t'=[]→¬ fs.length=16→(zM t').2=0→_:=fun c1 c2 c3 c4 c5=>hB (j+n,fs++[(zM t').1]) ⟨by simp only;omega,by simp only;omega,by simp;omega,(by
      intro x hx
      rcases List.mem_append.1 hx with hx|hx
      · exact k4 x hx
      · rw [List.mem_singleton.1 hx];omega),g,by simp only;rw [List.length_drop];have:=hn2 (.inl c2);omega,by
        rw [if_neg (by simp [c1]),if_neg (by simp [c2]),if_neg c3,if_neg c4,if_neg (by simp [c5])] at k6;exact k6⟩ (by simp only;have:=hn2 (.inl c2);omega)
    have hAn: ∀ (o':List Evt) (q:Nat),i<q→q≤b.length→o'.length≤o.length+3→(b.drop q).length<g→preG o' (reqG g none (b.drop q))=(RE,RB)→_:=fun o' q q1 q2 q3 q4 q5=>hA (q,o') ⟨q2,by simp only;omega,g,q4,q5⟩ (by simp only;omega)
    have htk:(((j+n:Nat):Int)+k).toNat - (j+n)=k.toNat:=by omega
    clear hA hB hpl hn3 hn4 hR h4 hle
    (repeat' (first|refine And.intro ?_ ?_|intro _))
    all_goals(subst hI;(simp only [nrmA,nrmB,nrlB,reduceCtorEq] at *);(try simp only [List.nil_append,htk] at *))
    all_goals first
      |done
      |omega
      |exact hfs
      |exact(k4 _ ‹_›).1
      |exact(k4 _ ‹_›).2
      |(with_reducible show _≤_;simp only [List.length_append,List.length_take,List.length_drop,List.length_cons,List.length_nil];omega)
      |exact hBn ‹_› ‹_› ‹_› (by omega) ‹_›
      |(with_reducible show _=_;clear hAn hBn hcl hfs k4 h2 h3 k5 hn2 k1 k2 hn1 k3 h1;((repeat(first|rw [if_pos (by first|omega|assumption)] at k6|rw [if_neg (by first|omega|assumption|(rw [‹ok=true›];decide)|(rw [‹ri=true›];decide))] at k6));simp only [preG,Prod.mk.injEq,List.append_nil,List.nil_append] at k6;obtain⟨rfl,rfl⟩:=k6;first|rfl|(simp [evH,evB,evE,evF,hd0,prt0];done)))
      | (with_reducible show A _
         (repeat(first|rw [if_pos (by first|omega|assumption)] at k6|rw [if_neg (by first|omega|assumption|(rw [‹ok=true›];decide)|(rw [‹ri=true›];decide))] at k6))
         have hn0:=hn2 (.inl ‹ok=true›)
         first
           |rw [show((j+n:Nat):Int)+k=((j+n+k.toNat:Nat):Int) by omega]
           |rw [show((j+n:Nat):Int)+ur=((j+n+ur.toNat:Nat):Int) by omega]
         rw [Yp] at k6
         refine hAn _ _ (by omega) (by omega) (by simp only [List.length_append,List.length_cons,List.length_nil];omega) (by rw [List.length_drop];omega) ?_
         rw [← k6]
         simp only [List.append_assoc,evH,evB,evE,hd0,prt0,List.nil_append,List.cons_append])
  refine zh (let y0:=I.cut (α:=UInt8) b (Int.ofNat i) (I.len (α:=UInt8) b);let y1:=I.hid (α:=Str) (Prod.fst (zu y0));let y2:=I.hid (α:=Int) (Prod.fst (Prod.snd (zu y0)));let y3:=I.hid (α:=Int) (Prod.snd (firM y1));let y4:=I.hid (α:=Bool) (Prod.fst (Prod.snd (Prod.snd (zu y0))));let y5:=I.hid (α:=Int) (Prod.snd (Prod.snd (Prod.snd (zu y0))));let y6:=I.hid (α:=(Prop)) (LE.le (List.length o) 1000000);let y7:HO:=.pack [(.obj 26 [(.row 1)]),(.row .evt 32 o)];.need (I.cutb (Int.ofNat i) (I.len (α:=UInt8) b) (I.len (α:=UInt8) b)) (.need (I.hid (α:=(Prop)) (LE.le (List.length y0) 1000000)) (.br (I.bnot (I.ieq y5 0)) (.need y6 (.fin (.ret (.tup [(.one (.row 0)),(.one (.p (.bool Bool.false)))])) [(.row .evt 32 (I.hid (α:=(List Go.Ab.Evt)) (HAppend.hAppend o ([(evF y5)]:List Go.Ab.Evt))))])) (.br (I.bnot y4) (.fin (.ret (.tup [(.one (.row 0)),(.one (.p (.bool (I.ilt (Nat.cast i) (I.len (α:=UInt8) b)))))])) [(.row .evt 32 o)]) (.need (I.inr Go.IntKind.i64 (I.add (Nat.cast i) y2)) (.br (I.seq y1 ([]:Str)) (.need (A ⟨[(0,(.v (.one (.p (.list .byte b))))),(4,(.v (.one (.ptr 0 0)))),(5,(.v (.one (.fn 23 [(.ptr 0 0)])))),(6,(.v (.one (.p (.int .i64 (I.add (Nat.cast i) y2))))))],[y7],188,none⟩) .qed) (.need (I.hid (α:=(Prop)) (LE.le (List.length y1) 1000000)) (.br (I.bnot (I.ieq y3 0)) (.need y6 (.fin (.ret (.tup [(.one (.row 0)),(.one (.p (.bool Bool.false)))])) [(.row .evt 32 (I.hid (α:=(List Go.Ab.Evt)) (HAppend.hAppend o ([(evF y3)]:List Go.Ab.Evt))))])) (.code 0 [0,1,1,1,1,1,1,1,0,0] ⟨[(10,(.v (.one (.p (.int .i64 y3))))),(11,(.v (.one (.ptr 1 0)))),(6,(.v (.one (.p (.int .i64 (I.add (Nat.cast i) y2)))))),(9,(.v (.one (.p (.bool y4))))),(8,(.v (.one (.p (.int .i64 y2))))),(7,(.v (.one (.p (.str y1))))),(0,(.v (.one (.p (.list .byte b))))),(4,(.v (.one (.ptr 0 0)))),(5,(.v (.one (.fn 23 [(.ptr 0 0)]))))],[y7,(.obj 25 [(.p (.str (I.hid (α:=Str) (Hd.method (Prod.fst (firM y1)))))),(.p (.str (I.hid (α:=Str) (Hd.target (Prod.fst (firM y1)))))),(.p (.int .i64 (I.hid (α:=Int) (Hd.minor (Prod.fst (firM y1)))))),.nilS,(.p (.int .i64 (I.hid (α:=Int) (Hd.length (Prod.fst (firM y1))))))])],188,none⟩))))))))) (by kernel_rfl) ?_
  simp only [zy]
  have hh: ∀ {α:Type} (x:α),I.hid x=x:=by subst hI;intros;rfl
  have hcut: ∀ j:Nat,I.cut b (j:Int) (I.len b)=b.drop j:=fun j=>by
    subst hI
    rw [xg,zU,Int.toNat_natCast,Int.toNat_natCast]
    exact List.take_of_length_le (by rw [List.length_drop];exact Nat.le_refl _)
  have hadd: ∀ j k:Nat,I.add (j:Int) (k:Int)=((j+k:Nat):Int):=fun j k=>by subst hI;rw [xK];omega
  have hcut0:I.cut b (Int.ofNat i) (I.len b)=b.drop i:=hcut i
  simp only [hcut0,hh]
  obtain⟨n,hn,hn1,hn2,hn3,hn4⟩:=xY (b.drop i)
  obtain⟨f,rfl⟩: ∃ g',f=g'+1:=⟨f - 1,by omega⟩
  rw [zfV] at h4
  rw [List.length_drop] at h3 hn1
  simp only [hn,hadd,hcut,Int.toNat_natCast,List.drop_drop] at h4 ⊢
  have hll:=tu (b.drop i)
  rw [List.length_drop] at hll
  generalize zu (b.drop i)=x at *
  obtain⟨t',n',ok,e⟩:=x
  simp only at *
  subst hn
  have hfm:(firM t').1.fields=[]:=zkZ t'
  have hlt:(i:Int)<(b.length:Int)↔b.drop i≠[]:=by
    constructor
    · intro h k
      have:=congrArg List.length k
      rw [List.length_drop] at this
      simp at this;omega
    · intro h
      have:b.length - i≠0:=fun k=>h (List.eq_nil_of_length_eq_zero (by rw [List.length_drop];exact k))
      omega
  generalize firM t'=fm at *
  obtain⟨⟨hm,ht,hmi,hfl,hle⟩,fc⟩:=fm
  simp only at *
  subst hfm
  have hkF:=fun(h:ok=true) st=>keyF hm ht hmi hle (i+n) f st (by have:=hn2 (.inl h);omega) (by omega) (by rw [List.length_drop];have:=hn2 (.inl h);omega)
  clear keyF
  (repeat' (first|refine And.intro ?_ ?_|intro _))
  all_goals first
    | ((with_reducible show Ok _ _ _ _)
       have k1:ok=true:=by clear hkF hA;subst hI;(simp only [nrmA,nrmB,nrlB,reduceCtorEq] at *);assumption
       have k2: ¬ t'=[]:=by clear hkF hA;subst hI;(simp only [nrmA,nrmB,nrlB,reduceCtorEq] at *);assumption
       have k3:fc=0:=by clear hkF hA;subst hI;(simp only [nrmA,nrmB,nrlB,reduceCtorEq] at *);assumption
       have k4:e=0:=hn4 k1
       rw [if_neg (by simp [k4]),if_neg (by simp [k1]),if_neg k2,if_neg (by simp [k3])] at h4
       subst hI
       exact hkF k1 _ h4 (by kernel_rfl))
    | (clear hkF
       subst hI
       (simp only [nrmA,nrmB,nrlB,reduceCtorEq] at *)
       first
       |done
       |omega
       |(rw [List.length_drop];omega)
       | (with_reducible show A _
          have hn0:=hn2 (.inl ‹ok=true›)
          ((repeat(first|rewrite [if_pos (by first|omega|assumption|(simp only [*,or_self,or_true,true_or,or_false,false_or,not_true_eq_false,not_false_eq_true,Bool.false_eq_true,Bool.true_eq_false,and_self,and_true,true_and];done)|(simp only [*];omega)|(simp [*];done)|(simp [*];omega))] at h4|rewrite [if_neg (by first|omega|assumption|(simp only [*,or_self,or_true,true_or,or_false,false_or,not_true_eq_false,not_false_eq_true,Bool.false_eq_true,Bool.true_eq_false,and_self,and_true,true_and];done)|(simp only [*];omega)|(simp [*];done)|(simp [*];omega))] at h4)))
          exact hA (i+n,o) ⟨by simp only;omega,by simp only;omega,f,by simp only;rw [List.length_drop];omega,h4⟩ (by simp only;omega))
       | (clear hn2 hn3 hn4 hA hR
          with_reducible show _=_
          ((repeat(first|rewrite [if_pos (by first|omega|assumption|(simp only [*,or_self,or_true,true_or,or_false,false_or,not_true_eq_false,not_false_eq_true,Bool.false_eq_true,Bool.true_eq_false,and_self,and_true,true_and];done)|(simp only [*];omega)|(simp [*];done)|(simp [*];omega))] at h4|rewrite [if_neg (by first|omega|assumption|(simp only [*,or_self,or_true,true_or,or_false,false_or,not_true_eq_false,not_false_eq_true,Bool.false_eq_true,Bool.true_eq_false,and_self,and_true,true_and];done)|(simp only [*];omega)|(simp [*];done)|(simp [*];omega))] at h4));simp only [preG,Prod.mk.injEq,List.append_nil,List.nil_append] at h4;obtain⟨rfl,rfl⟩:=h4;first|rfl|(simp [evH,evB,evE,evF,hd0,prt0];done)|exact decide_eq_decide.2 hlt))
       |trace_state)
def sD (I:Alg) (args:List D) (hp:List HO):Option CT:=match args,hp with
  |[.v (.one (.p (.list .byte b)))],[]=>(fun(b:Str)=>(some (.one ⟨I.hid (b.length≤200000),(.ret (.tup [(.one (.row 0)),(.one (.p (.bool (I.hid ((reqG (b.length+1) none b).2)))))])),[.row .evt 32 (I.hid ((reqG (b.length+1) none b).1))]⟩):Option CT)) b
  |_,_=>none
theorem Vy:zD Tryz.prog 10 (sD alg):=by
  intro args hp r h
  unfold sD at h
  split at h
  · cases h;exact fun hn=>zfT _ hn
  · cases h
def Vx:Know Tryz.prog:=⟨10,sD,Vy⟩
def Vw:Know Tryz.prog:=⟨10,fun I=>zH I (sD I),zf Vy⟩
end Go.Proofs.YtmibhbdfigpkmaaGreatDoor
