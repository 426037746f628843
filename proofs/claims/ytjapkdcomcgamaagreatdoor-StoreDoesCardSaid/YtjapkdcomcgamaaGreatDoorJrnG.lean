/- A log: its walks. -/
import Derived.Test.YtjapkdcomcgamaaGreatDoorBase
set_option linter.all false
namespace Go.Proofs.YtjapkdcomcgamaaGreatDoor
open Go Go.Sep Go.Ab
set_option maxRecDepth 100000

def cfgL : Cfg := { sl := [⟨107, 0, .byte, some 5⟩] }

def roomB (b : Str) (n : Int) : Bool := decide (0 ≤ n ∧ n ≤ 100000 - (b.length : Int))
def wrC (b x : Str) : Int := if b.length + x.length ≤ 100000 then 0 else 16
def wrB (b x : Str) : Str := if b.length + x.length ≤ 100000 then b ++ x else b
def crB (b : Str) (s n : Int) : Str := b.take (s + min (max n 0) (b.length - s)).toNat
def cuB (b : Str) (n : Int) : Str := if 0 ≤ n ∧ n < b.length then b.take n.toNat else b
def cuS (b : Str) (s n : Int) : Int := if 0 ≤ n ∧ n < b.length then min s n else s

theorem jnew_  : Spc Tryz.prog 34 [] [] (.ret (.v (.one (.ptr 0 0)))) [.pack [.obj 107 [(.row 1), (.p (.int .i64 0))], .row .byte 5 ([])]] := by
  refine spcG tab_ok mixed Tryz.func34 (by kernel_rfl) { cfgL with keep := some [0] } [] (by kernel_rfl) ?_
  intro I X hI hX
  refine ev_rule (.fin (.ret (.v (.one (.ptr 0 0)))) [(.pack [(.obj 107 [(.row 1), (.p (.int .i64 0))]), (.row .byte 5 ([] : List UInt8))])]) (by kernel_rfl) ?_
  simp only [instL]
  trivial
def jnew__c (I : Alg) (args : List D) (hp : List HO) : Option CT := match args, hp with
  | [], [] => (fun (_ : Unit) => (some (.one ⟨I.hid (True), (.ret (.v (.one (.ptr 0 0)))), [.pack [.obj 107 [(.row 1), (.p (.int .i64 0))], .row .byte 5 (I.hid ([]))]]⟩) : Option CT)) ()
  | _, _ => none
theorem jnew__g : GoodC Tryz.prog 34 (jnew__c alg) := by
  intro args hp r h
  unfold jnew__c at h
  split at h
  · cases h; exact fun hn => jnew_ 
  · cases h
def jnew__k : Know Tryz.prog := ⟨34, jnew__c, jnew__g⟩
def jnew__l : Know Tryz.prog := ⟨34, fun I => lendC I (jnew__c I), lendC_good jnew__g⟩

theorem sure_ (b : Str) (s : Int) : Spc Tryz.prog 48 [.v (.one (.ptr 0 0))] [.pack [.obj 107 [(.row 1), (.p (.int .i64 s))], .row .byte 5 b]] (.ret (.v (.one (.p (.int .i64 s))))) [.pack [.obj 107 [(.row 1), (.p (.int .i64 s))], .row .byte 5 b]] := by
  refine spcG tab_ok mixed Tryz.func48 (by kernel_rfl) { cfgL with keep := some [0, 2] } [] (by kernel_rfl) ?_
  intro I X hI hX
  refine ev_rule (.fin (.ret (.v (.one (.p (.int .i64 s))))) [(.pack [(.obj 107 [(.row 1), (.p (.int .i64 s))]), (.row .byte 5 b)])]) (by kernel_rfl) ?_
  simp only [instL]
  trivial
def sure__c (I : Alg) (args : List D) (hp : List HO) : Option CT := match args, hp with
  | [.v (.one (.ptr 0 0))], [.pack [.obj 107 [(.row 1), (.p (.int .i64 s))], .row .byte 5 b]] => (fun (b : Str) (s : Int) => (some (.one ⟨I.hid (True), (.ret (.v (.one (.p (.int .i64 s))))), [.pack [.obj 107 [(.row 1), (.p (.int .i64 s))], .row .byte 5 b]]⟩) : Option CT)) b s
  | _, _ => none
theorem sure__g : GoodC Tryz.prog 48 (sure__c alg) := by
  intro args hp r h
  unfold sure__c at h
  split at h
  · cases h; exact fun hn => sure_ _ _
  · cases h
def sure__k : Know Tryz.prog := ⟨48, sure__c, sure__g⟩
def sure__l : Know Tryz.prog := ⟨48, fun I => lendC I (sure__c I), lendC_good sure__g⟩

theorem bytes_ (b : Str) (s : Int) (hneed : b.length ≤ 100000000) : Spc Tryz.prog 47 [.v (.one (.ptr 0 0))] [.pack [.obj 107 [(.row 1), (.p (.int .i64 s))], .row .byte 5 b]] (.ret (.v (.one (.row 1)))) [.pack [.obj 107 [(.row 1), (.p (.int .i64 s))], .row .byte 5 b], .row .byte 5 b] := by
  refine spcG tab_ok mixed Tryz.func47 (by kernel_rfl) { cfgL with keep := some [0, 2] } [clone__k, clone__l] (by kernel_rfl) ?_
  intro I X hI hX
  refine ev_rule (.need (I.hid (α := (Prop)) (LE.le (List.length b) 100000000)) (.fin (.ret (.v (.one (.row 1)))) [(.pack [(.obj 107 [(.row 1), (.p (.int .i64 s))]), (.row .byte 5 b)]), (.row .byte 5 b)])) (by kernel_rfl) ?_
  simp only [instL]
  subst hI
  simp only [nrmA, nrmB]
  exact hneed
def bytes__c (I : Alg) (args : List D) (hp : List HO) : Option CT := match args, hp with
  | [.v (.one (.ptr 0 0))], [.pack [.obj 107 [(.row 1), (.p (.int .i64 s))], .row .byte 5 b]] => (fun (b : Str) (s : Int) => (some (.one ⟨I.hid (b.length ≤ 100000000), (.ret (.v (.one (.row 1)))), [.pack [.obj 107 [(.row 1), (.p (.int .i64 s))], .row .byte 5 b], .row .byte 5 b]⟩) : Option CT)) b s
  | _, _ => none
theorem bytes__g : GoodC Tryz.prog 47 (bytes__c alg) := by
  intro args hp r h
  unfold bytes__c at h
  split at h
  · cases h; exact fun hn => bytes_ _ _ hn
  · cases h
def bytes__k : Know Tryz.prog := ⟨47, bytes__c, bytes__g⟩
def bytes__l : Know Tryz.prog := ⟨47, fun I => lendC I (bytes__c I), lendC_good bytes__g⟩

theorem sync_ (b : Str) (s : Int) : Spc Tryz.prog 68 [.v (.one (.ptr 0 0))] [.pack [.obj 107 [(.row 1), (.p (.int .i64 s))], .row .byte 5 b]] (.ret (.tup [])) [.pack [.obj 107 [(.row 1), (.p (.int .i64 ((b.length : Int))))], .row .byte 5 b]] := by
  refine spcG tab_ok mixed Tryz.func68 (by kernel_rfl) { cfgL with keep := some [0] } [] (by kernel_rfl) ?_
  intro I X hI hX
  refine ev_rule (.fin (.ret (.tup [])) [(.pack [(.obj 107 [(.row 1), (.p (.int .i64 (I.len (α := UInt8) b)))]), (.row .byte 5 b)])]) (by kernel_rfl) ?_
  simp only [instL]
  subst hI
  simp only [nrmA, nrmB, nrlB, reduceCtorEq, HO.pack.injEq, HO.obj.injEq]
def sync__c (I : Alg) (args : List D) (hp : List HO) : Option CT := match args, hp with
  | [.v (.one (.ptr 0 0))], [.pack [.obj 107 [(.row 1), (.p (.int .i64 s))], .row .byte 5 b]] => (fun (b : Str) (s : Int) => (some (.one ⟨I.hid (True), (.ret (.tup [])), [.pack [.obj 107 [(.row 1), (.p (.int .i64 (I.hid ((b.length : Int)))))], .row .byte 5 b]]⟩) : Option CT)) b s
  | _, _ => none
theorem sync__g : GoodC Tryz.prog 68 (sync__c alg) := by
  intro args hp r h
  unfold sync__c at h
  split at h
  · cases h; exact fun hn => sync_ _ _
  · cases h
def sync__k : Know Tryz.prog := ⟨68, sync__c, sync__g⟩
def sync__l : Know Tryz.prog := ⟨68, fun I => lendC I (sync__c I), lendC_good sync__g⟩

theorem room_ (b : Str) (s n : Int) (hneed : b.length ≤ 100000000) : Spc Tryz.prog 49 [.v (.one (.ptr 0 0)), .v (.one (.p (.int .i64 n)))] [.pack [.obj 107 [(.row 1), (.p (.int .i64 s))], .row .byte 5 b]] (.ret (.v (.one (.p (.bool ((roomB b n))))))) [.pack [.obj 107 [(.row 1), (.p (.int .i64 s))], .row .byte 5 b]] := by
  refine spcG tab_ok mixed Tryz.func49 (by kernel_rfl) { cfgL with keep := some [0, 1, 4] } [] (by kernel_rfl) ?_
  intro I X hI hX
  refine ev_rule (let y0 := I.sub 100000 (I.len (α := UInt8) b); .br (I.ile 0 n) (.need (I.inr Go.IntKind.i64 y0) (.fin (.ret (.v (.one (.p (.bool (I.ile n y0)))))) [(.pack [(.obj 107 [(.row 1), (.p (.int .i64 s))]), (.row .byte 5 b)])])) (.fin (.ret (.v (.one (.p (.bool Bool.false))))) [(.pack [(.obj 107 [(.row 1), (.p (.int .i64 s))]), (.row .byte 5 b)])])) (by kernel_rfl) ?_
  simp only [instL]
  subst hI
  simp only [nrmA, nrmB, nrlB, reduceCtorEq]
  unfold roomB
  exact ⟨fun h => ⟨by omega, decide_eq_decide.2 (by omega)⟩, fun h => (decide_eq_false (by omega)).symm⟩
def room__c (I : Alg) (args : List D) (hp : List HO) : Option CT := match args, hp with
  | [.v (.one (.ptr 0 0)), .v (.one (.p (.int .i64 n)))], [.pack [.obj 107 [(.row 1), (.p (.int .i64 s))], .row .byte 5 b]] => (fun (b : Str) (s n : Int) => (some (.one ⟨I.hid (b.length ≤ 100000000), (.ret (.v (.one (.p (.bool (I.hid ((roomB b n)))))))), [.pack [.obj 107 [(.row 1), (.p (.int .i64 s))], .row .byte 5 b]]⟩) : Option CT)) b s n
  | _, _ => none
theorem room__g : GoodC Tryz.prog 49 (room__c alg) := by
  intro args hp r h
  unfold room__c at h
  split at h
  · cases h; exact fun hn => room_ _ _ _ hn
  · cases h
def room__k : Know Tryz.prog := ⟨49, room__c, room__g⟩
def room__l : Know Tryz.prog := ⟨49, fun I => lendC I (room__c I), lendC_good room__g⟩

theorem write_ (b x : Str) (s : Int) (hneed : b.length ≤ 100000 ∧ x.length ≤ 100000000) : Spc Tryz.prog 96 [.v (.one (.ptr 0 0)), .v (.one (.p (.list .byte x)))] [.pack [.obj 107 [(.row 1), (.p (.int .i64 s))], .row .byte 5 b]] (.ret (.v (.one (.p (.int .i64 ((wrC b x))))))) [.pack [.obj 107 [(.row 1), (.p (.int .i64 s))], .row .byte 5 ((wrB b x))]] := by
  refine spcG tab_ok mixed Tryz.func96 (by kernel_rfl) { cfgL with keep := some [0, 1, 4] } [room__k, room__l] (by kernel_rfl) ?_
  intro I X hI hX
  refine ev_rule (.need (I.hid (α := (Prop)) (LE.le (List.length b) 100000000)) (.br (I.bnot (I.hid (α := Bool) (roomB b (I.len (α := UInt8) x)))) (.fin (.ret (.v (.one (.p (.int .i64 16))))) [(.pack [(.obj 107 [(.row 1), (.p (.int .i64 s))]), (.row .byte 5 b)])]) (.need (I.few (I.add (I.len (α := UInt8) b) (I.len (α := UInt8) x)) 140737488355328) (.fin (.ret (.v (.one (.p (.int .i64 0))))) [(.pack [(.obj 107 [(.row 1), (.p (.int .i64 s))]), (.row .byte 5 (I.app (α := UInt8) b x))])])))) (by kernel_rfl) ?_
  simp only [instL]
  subst hI
  have hr : roomB b (x.length : Int) = decide (b.length + x.length ≤ 100000) := by unfold roomB; exact decide_eq_decide.2 (by omega)
  simp only [nrmA, nrmB, nrlB, reduceCtorEq, HO.pack.injEq, HO.obj.injEq]
  rw [hr]
  by_cases hc : b.length + x.length ≤ 100000
  · simp only [wrC, wrB, if_pos hc, decide_eq_true hc]
    simp only [nrmA, nrmB, nrlB, reduceCtorEq]
    exact ⟨by omega, fun h => h.elim, fun _ => by omega⟩
  · simp only [wrC, wrB, if_neg hc, decide_eq_false hc]
    simp only [nrmA, nrmB, nrlB, reduceCtorEq]
    exact ⟨by omega, fun _ => trivial, fun h => h.elim⟩
def write__c (I : Alg) (args : List D) (hp : List HO) : Option CT := match args, hp with
  | [.v (.one (.ptr 0 0)), .v (.one (.p (.list .byte x)))], [.pack [.obj 107 [(.row 1), (.p (.int .i64 s))], .row .byte 5 b]] => (fun (b x : Str) (s : Int) => (some (.one ⟨I.hid (b.length ≤ 100000 ∧ x.length ≤ 100000000), (.ret (.v (.one (.p (.int .i64 (I.hid ((wrC b x)))))))), [.pack [.obj 107 [(.row 1), (.p (.int .i64 s))], .row .byte 5 (I.hid ((wrB b x)))]]⟩) : Option CT)) b x s
  | _, _ => none
theorem write__g : GoodC Tryz.prog 96 (write__c alg) := by
  intro args hp r h
  unfold write__c at h
  split at h
  · cases h; exact fun hn => write_ _ _ _ hn
  · cases h
def write__k : Know Tryz.prog := ⟨96, write__c, write__g⟩
def write__l : Know Tryz.prog := ⟨96, fun I => lendC I (write__c I), lendC_good write__g⟩

theorem crash_ (b : Str) (s n : Int) (hneed : b.length ≤ 100000 ∧ 0 ≤ s ∧ s ≤ b.length) : Spc Tryz.prog 69 [.v (.one (.ptr 0 0)), .v (.one (.p (.int .i64 n)))] [.pack [.obj 107 [(.row 1), (.p (.int .i64 s))], .row .byte 5 b]] (.ret (.tup [])) [.pack [.obj 107 [(.row 1), (.p (.int .i64 (((crB b s n).length : Int))))], .row .byte 5 ((crB b s n))]] := by
  refine spcG tab_ok mixed Tryz.func69 (by kernel_rfl) { cfgL with cut := [35], keep := some [0, 1, 4] } [sync__k, sync__l] (by kernel_rfl) ?_
  intro I X hI hX
  refine ev_rule (let y0 := I.add s (I.imin (I.imax n 0) (I.sub (I.len (α := UInt8) b) s)); .need (I.inr Go.IntKind.i64 (I.sub (I.len (α := UInt8) b) s)) (.need (I.inr Go.IntKind.i64 y0) (.need (I.inr Go.IntKind.i64 y0) (.need (I.same (α := Int) y0 y0) (.need (I.cutb 0 y0 (I.len (α := UInt8) b)) (.need (I.same (α := Int) 0 0) (.need (I.hid (α := (Prop)) True) (.fin (.ret (.tup [])) [(.pack [(.obj 107 [(.row 1), (.p (.int .i64 (I.hid (α := Int) (Nat.cast (List.length (I.cut (α := UInt8) b 0 y0))))))]), (.row .byte 5 (I.cut (α := UInt8) b 0 y0))])])))))))) (by kernel_rfl) ?_
  simp only [instL]
  subst hI
  simp only [nrmA, nrmB, nrlB, reduceCtorEq, HO.pack.injEq, HO.obj.injEq]
  obtain ⟨K, hK, h0, hle⟩ : ∃ K : Int, s + (if (if n ≤ 0 then 0 else n) ≤ (b.length : Int) - s then (if n ≤ 0 then 0 else n) else (b.length : Int) - s) = K ∧ s ≤ K ∧ K ≤ b.length := ⟨_, rfl, by omega, by omega⟩
  have hcr : crB b s n = b.take K.toNat := by
    unfold crB
    rw [← hK]
    congr 2
  rw [hK, hcr]
  exact ⟨by omega, by omega, by omega, by omega, rfl, rfl⟩
def crash__c (I : Alg) (args : List D) (hp : List HO) : Option CT := match args, hp with
  | [.v (.one (.ptr 0 0)), .v (.one (.p (.int .i64 n)))], [.pack [.obj 107 [(.row 1), (.p (.int .i64 s))], .row .byte 5 b]] => (fun (b : Str) (s n : Int) => (some (.one ⟨I.hid (b.length ≤ 100000 ∧ 0 ≤ s ∧ s ≤ b.length), (.ret (.tup [])), [.pack [.obj 107 [(.row 1), (.p (.int .i64 (I.hid (((crB b s n).length : Int)))))], .row .byte 5 (I.hid ((crB b s n)))]]⟩) : Option CT)) b s n
  | _, _ => none
theorem crash__g : GoodC Tryz.prog 69 (crash__c alg) := by
  intro args hp r h
  unfold crash__c at h
  split at h
  · cases h; exact fun hn => crash_ _ _ _ hn
  · cases h
def crash__k : Know Tryz.prog := ⟨69, crash__c, crash__g⟩
def crash__l : Know Tryz.prog := ⟨69, fun I => lendC I (crash__c I), lendC_good crash__g⟩

theorem cutL_ (b : Str) (s n : Int) (hneed : b.length ≤ 100000 ∧ 0 ≤ s ∧ s ≤ b.length) : Spc Tryz.prog 71 [.v (.one (.ptr 0 0)), .v (.one (.p (.int .i64 n)))] [.pack [.obj 107 [(.row 1), (.p (.int .i64 s))], .row .byte 5 b]] (.ret (.tup [])) [.pack [.obj 107 [(.row 1), (.p (.int .i64 ((cuS b s n))))], .row .byte 5 ((cuB b n))]] := by
  refine spcG tab_ok mixed Tryz.func71 (by kernel_rfl) { cfgL with cut := [22], keep := some [0, 1] } [] (by kernel_rfl) ?_
  intro I X hI hX
  refine ev_rule (.br (I.ile 0 n) (.br (I.ilt n (I.len (α := UInt8) b)) (.need (I.same (α := Int) n n) (.need (I.cutb 0 n (I.len (α := UInt8) b)) (.need (I.same (α := Int) 0 0) (.fin (.ret (.tup [])) [(.pack [(.obj 107 [(.row 1), (.p (.int .i64 (I.imin s n)))]), (.row .byte 5 (I.cut (α := UInt8) b 0 n))])])))) (.fin (.ret (.tup [])) [(.pack [(.obj 107 [(.row 1), (.p (.int .i64 s))]), (.row .byte 5 b)])])) (.fin (.ret (.tup [])) [(.pack [(.obj 107 [(.row 1), (.p (.int .i64 s))]), (.row .byte 5 b)])])) (by kernel_rfl) ?_
  simp only [instL]
  subst hI
  simp only [nrmA, nrmB, nrlB, reduceCtorEq, HO.pack.injEq, HO.obj.injEq]
  refine ⟨fun h1 => ⟨fun h2 => ⟨by omega, ?_, ?_⟩, fun h2 => ?_⟩, fun h1 => ?_⟩
  · unfold cuS; rw [if_pos (show 0 ≤ n ∧ n < (b.length : Int) from ⟨h1, h2⟩)]; omega
  · unfold cuB; rw [if_pos (show 0 ≤ n ∧ n < (b.length : Int) from ⟨h1, h2⟩)]
  · unfold cuS cuB; rw [if_neg (show ¬ (0 ≤ n ∧ n < (b.length : Int)) from fun h => by omega), if_neg (show ¬ (0 ≤ n ∧ n < (b.length : Int)) from fun h => by omega)]; exact ⟨rfl, rfl⟩
  · unfold cuS cuB; rw [if_neg (show ¬ (0 ≤ n ∧ n < (b.length : Int)) from fun h => by omega), if_neg (show ¬ (0 ≤ n ∧ n < (b.length : Int)) from fun h => by omega)]; exact ⟨rfl, rfl⟩
def cutL__c (I : Alg) (args : List D) (hp : List HO) : Option CT := match args, hp with
  | [.v (.one (.ptr 0 0)), .v (.one (.p (.int .i64 n)))], [.pack [.obj 107 [(.row 1), (.p (.int .i64 s))], .row .byte 5 b]] => (fun (b : Str) (s n : Int) => (some (.one ⟨I.hid (b.length ≤ 100000 ∧ 0 ≤ s ∧ s ≤ b.length), (.ret (.tup [])), [.pack [.obj 107 [(.row 1), (.p (.int .i64 (I.hid ((cuS b s n)))))], .row .byte 5 (I.hid ((cuB b n)))]]⟩) : Option CT)) b s n
  | _, _ => none
theorem cutL__g : GoodC Tryz.prog 71 (cutL__c alg) := by
  intro args hp r h
  unfold cutL__c at h
  split at h
  · cases h; exact fun hn => cutL_ _ _ _ hn
  · cases h
def cutL__k : Know Tryz.prog := ⟨71, cutL__c, cutL__g⟩
def cutL__l : Know Tryz.prog := ⟨71, fun I => lendC I (cutL__c I), lendC_good cutL__g⟩
end Go.Proofs.YtjapkdcomcgamaaGreatDoor
