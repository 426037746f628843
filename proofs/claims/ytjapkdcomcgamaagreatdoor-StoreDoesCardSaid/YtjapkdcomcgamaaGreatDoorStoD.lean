/- A store: the document's own, its walks. -/
import Derived.Test.YtjapkdcomcgamaaGreatDoorStoB
import Derived.Test.YtjapkdcomcgamaaGreatDoorSplC
set_option linter.all false
namespace Go.Proofs.YtjapkdcomcgamaaGreatDoor
open Go Go.Sep Go.Ab Go.Jrn
set_option maxRecDepth 100000

def cfgSh : Cfg := { sl := [⟨49, 0, .upl, some 70⟩, ⟨40, 1, .byte, some 5⟩, ⟨49, 1000001, .byte, none⟩] }


theorem shNew_  : Spc Tryz.prog 9 [] [] (.ret (.v (.one (.ptr 0 0)))) [.pack [.obj 40 [(.ptr 1 0), (.row 2), (.p (.int .i64 0))], .pack [.obj 49 [(.row 1), (.p (.int .i64 0))], .row .upl 70 ([])], .row .byte 5 ([])]] := by
  refine spcG tab_ok mixed Tryz.func9 (by kernel_rfl) { cfgSh with keep := some [0] } [] (by kernel_rfl) ?_
  intro I X hI hX
  refine ev_rule (.fin (.ret (.v (.one (.ptr 0 0)))) [(.pack [(.obj 40 [(.ptr 1 0), (.row 2), (.p (.int .i64 0))]), (.pack [(.obj 49 [(.row 1), (.p (.int .i64 0))]), (.row .upl 70 ([] : List Go.Ab.Upl))]), (.row .byte 5 ([] : List UInt8))])]) (by kernel_rfl) ?_
  simp only [instL]
  trivial
def shNew__c (I : Alg) (args : List D) (hp : List HO) : Option CT := match args, hp with
  | [], [] => (fun (_ : Unit) => (some (.one ⟨I.hid (True), (.ret (.v (.one (.ptr 0 0)))), [.pack [.obj 40 [(.ptr 1 0), (.row 2), (.p (.int .i64 0))], .pack [.obj 49 [(.row 1), (.p (.int .i64 0))], .row .upl 70 (I.hid ([]))], .row .byte 5 (I.hid ([]))]]⟩) : Option CT)) ()
  | _, _ => none
theorem shNew__g : GoodC Tryz.prog 9 (shNew__c alg) := by
  intro args hp r h
  unfold shNew__c at h
  split at h
  · cases h; exact fun hn => shNew_ 
  · cases h
def shNew__k : Know Tryz.prog := ⟨9, shNew__c, shNew__g⟩
def shNew__l : Know Tryz.prog := ⟨9, fun I => lendC I (shNew__c I), lendC_good shNew__g⟩

/-- A creation's entry names the next number. -/
def okId (k i n : Int) : Prop := k = 1 → i = n + 1
/-- What an entry says, done by the document. -/
def plyC (l : List Upl) (e : Ent) : Int := if e.kind = 1 then creC l e.n e.text else playC l 0 e
theorem ply_play {l : List Upl} {n : Int} {e : Ent} (h : e.kind = 1 → e.id = n + 1) : plyC l e = playC l n e := by
  unfold plyC playC
  split
  · rename_i h1
    rw [if_neg (by rw [h h1]; simp)]
  · rfl
theorem app_none {l : List Upl} {id off : Int} {b : Str} (h : ¬ atU l id < l.length) : appC l id off b = 10 := by
  unfold appC; rw [if_pos (by omega)]
theorem getU_get {l : List Upl} {id : Int} (h : atU l id < l.length) : getU l id = l.getD (atU l id) ⟨0, 0, [], [], 0⟩ := by
  unfold getU; rw [if_pos h]; rfl

set_option maxHeartbeats 4000000 in
theorem hPlayed_ (l : List Upl) (n k i m : Int) (t : Str) (hneed : SplOk l n ∧ n ≤ 1000000 ∧ t.length ≤ 1000000) : Spc Tryz.prog 79 [.v (.one (.ptr 0 0)), .v (.agg [(.p (.int .i64 k)), (.p (.int .i64 i)), (.p (.int .i64 m)), (.p (.list .byte t))])] [.pack [.obj 49 [(.row 1), (.p (.int .i64 n))], .row .upl 70 l]] (.ret (.v (.one (.p (.int .i64 ((plyC l ⟨k, i, m, t⟩))))))) [.pack [.obj 49 [(.row 1), (.p (.int .i64 ((playN l n ⟨k, i, m, t⟩))))], .row .upl 70 ((playL l n ⟨k, i, m, t⟩))]] := by
  obtain ⟨hs, hn, ht⟩ := hneed
  have hf := spl_few hs
  generalize hc : plyC l ⟨k, i, m, t⟩ = c
  generalize hl : playL l n ⟨k, i, m, t⟩ = l'
  generalize hN : playN l n ⟨k, i, m, t⟩ = n'
  refine spcG tab_ok mixed Tryz.func79 (by kernel_rfl) { cfgSh with keep := some [0, 1, 3, 4, 6, 7, 9] } [hAt__k, hAt__l, hCreate__k, hCreate__l, hAppend__k, hAppend__l, hDeclare__k, hDeclare__l, hBegin__k, hBegin__l, hEnd__k, hEnd__l, hDrop__k, hDrop__l] (by kernel_rfl) ?_
  intro I X hI hX
  refine ev_rule (let y0 := I.len (α := UInt8) (Go.Ab.Upl.bytes (I.get (α := Go.Ab.Upl) l (Go.Ab.Upl.mk (0 : Int) (0 : Int) ([] : List UInt8) ([] : List UInt8) (0 : Int)) (I.hid (α := Int) (ixU l i)))); let y1 := I.inb (I.hid (α := Int) (ixU l i)) (I.len (α := Go.Ab.Upl) l); .br (I.ieq k 1) (.need (I.hid (α := (Prop)) (And (SplOk l n) (And (LE.le n (1000000 : Int)) (LE.le (List.length t) 1000000)))) (.fin (.ret (.v (.one (.p (.int .i64 (I.hid (α := Int) (creC l m t))))))) [(.pack [(.obj 49 [(.row 1), (.p (.int .i64 (I.hid (α := Int) (creN l n m t))))]), (.row .upl 70 (I.hid (α := (List Go.Ab.Upl)) (creL l n m t)))])])) (.br (I.ieq k 2) (.need (I.hid (α := (Prop)) (LE.le (List.length l) 1000000)) (.br (I.ilt (I.hid (α := Int) (ixU l i)) 0) (.fin (.ret (.v (.one (.p (.int .i64 10))))) [(.pack [(.obj 49 [(.row 1), (.p (.int .i64 n))]), (.row .upl 70 l)])]) (.need y1 (.need y1 (.need (I.hid (α := (Prop)) (And (SplOk l n) (LE.le (List.length t) 1000000))) (.fin (.ret (.v (.one (.p (.int .i64 (I.hid (α := Int) (appC l i y0 t))))))) [(.pack [(.obj 49 [(.row 1), (.p (.int .i64 n))]), (.row .upl 70 (I.hid (α := (List Go.Ab.Upl)) (appL l i y0 t)))])])))))) (.br (I.ieq k 3) (.need (I.hid (α := (Prop)) (SplOk l n)) (.fin (.ret (.v (.one (.p (.int .i64 (I.hid (α := Int) (decC l i m))))))) [(.pack [(.obj 49 [(.row 1), (.p (.int .i64 n))]), (.row .upl 70 (I.hid (α := (List Go.Ab.Upl)) (decL l i m)))])])) (.br (I.ieq k 4) (.need (I.hid (α := (Prop)) (SplOk l n)) (.fin (.ret (.v (.one (.p (.int .i64 (I.hid (α := Int) (droC l i))))))) [(.pack [(.obj 49 [(.row 1), (.p (.int .i64 n))]), (.row .upl 70 (I.hid (α := (List Go.Ab.Upl)) (droL l i)))])])) (.br (I.ieq k 5) (.need (I.hid (α := (Prop)) (SplOk l n)) (.fin (.ret (.v (.one (.p (.int .i64 (I.hid (α := Int) (begC l i))))))) [(.pack [(.obj 49 [(.row 1), (.p (.int .i64 n))]), (.row .upl 70 (I.hid (α := (List Go.Ab.Upl)) (begL l i)))])])) (.need (I.hid (α := (Prop)) (SplOk l n)) (.fin (.ret (.v (.one (.p (.int .i64 (I.hid (α := Int) (endC l i))))))) [(.pack [(.obj 49 [(.row 1), (.p (.int .i64 n))]), (.row .upl 70 (I.hid (α := (List Go.Ab.Upl)) (endL l i)))])]))))))) (by kernel_rfl) ?_
  simp only [instL]
  subst hI
  simp only [nrmA, nrmB, nrlB, reduceCtorEq, HO.pack.injEq, HO.obj.injEq]
  unfold plyC playC at hc
  unfold playL at hl
  unfold playN at hN
  simp only at hc hl hN
  have hle := atU_le l i
  by_cases hk : atU l i < l.length
  · rw [ixU_pos hk, Int.toNat_natCast]
    rw [getU_get hk] at hc hl
    (repeat' (first | refine And.intro ?_ ?_ | intro _)) <;> first | omega | exact True.intro | exact False.elim ‹False› | skip
    all_goals first
      | exact hs
      | exact hn
      | exact ht
      | exact ⟨hs, hn, ht⟩
      | exact ⟨hs, ht⟩
      | exact hf.1
      | (((repeat (first | rewrite [if_pos (by first | omega | assumption | (simp only [*, or_self, or_true, true_or, or_false, false_or, not_true_eq_false, not_false_eq_true, Bool.false_eq_true, Bool.true_eq_false, and_self, and_true, true_and]; done) | (simp only [*]; omega) | (simp [*]; done) | (simp [*]; omega))] at hc | rewrite [if_neg (by first | omega | assumption | (simp only [*, or_self, or_true, true_or, or_false, false_or, not_true_eq_false, not_false_eq_true, Bool.false_eq_true, Bool.true_eq_false, and_self, and_true, true_and]; done) | (simp only [*]; omega) | (simp [*]; done) | (simp [*]; omega))] at hc)); subst hc; ((repeat (first | rewrite [if_pos (by first | omega | assumption | (simp only [*, or_self, or_true, true_or, or_false, false_or, not_true_eq_false, not_false_eq_true, Bool.false_eq_true, Bool.true_eq_false, and_self, and_true, true_and]; done) | (simp only [*]; omega) | (simp [*]; done) | (simp [*]; omega))] at hl | rewrite [if_neg (by first | omega | assumption | (simp only [*, or_self, or_true, true_or, or_false, false_or, not_true_eq_false, not_false_eq_true, Bool.false_eq_true, Bool.true_eq_false, and_self, and_true, true_and]; done) | (simp only [*]; omega) | (simp [*]; done) | (simp [*]; omega))] at hl))); subst hl; ((repeat (first | rewrite [if_pos (by first | omega | assumption | (simp only [*, or_self, or_true, true_or, or_false, false_or, not_true_eq_false, not_false_eq_true, Bool.false_eq_true, Bool.true_eq_false, and_self, and_true, true_and]; done) | (simp only [*]; omega) | (simp [*]; done) | (simp [*]; omega))] at hN | rewrite [if_neg (by first | omega | assumption | (simp only [*, or_self, or_true, true_or, or_false, false_or, not_true_eq_false, not_false_eq_true, Bool.false_eq_true, Bool.true_eq_false, and_self, and_true, true_and]; done) | (simp only [*]; omega) | (simp [*]; done) | (simp [*]; omega))] at hN))); subst hN; first | rfl | omega))
      | trace_state
  · rw [ixU_neg hk]
    have ha := fun b => app_none (l := l) (id := i) (off := (getU l i).bytes.length) (b := b) hk
    unfold appL at hl
    (repeat' (first | refine And.intro ?_ ?_ | intro _)) <;> first | omega | exact True.intro | exact False.elim ‹False› | skip
    all_goals first
      | exact hs
      | exact hn
      | exact ht
      | exact ⟨hs, hn, ht⟩
      | exact ⟨hs, ht⟩
      | exact hf.1
      | (((repeat (first | rewrite [if_pos (by first | omega | assumption | (simp only [*, or_self, or_true, true_or, or_false, false_or, not_true_eq_false, not_false_eq_true, Bool.false_eq_true, Bool.true_eq_false, and_self, and_true, true_and]; done) | (simp only [*]; omega) | (simp [*]; done) | (simp [*]; omega))] at hc | rewrite [if_neg (by first | omega | assumption | (simp only [*, or_self, or_true, true_or, or_false, false_or, not_true_eq_false, not_false_eq_true, Bool.false_eq_true, Bool.true_eq_false, and_self, and_true, true_and]; done) | (simp only [*]; omega) | (simp [*]; done) | (simp [*]; omega))] at hc)); subst hc; ((repeat (first | rewrite [if_pos (by first | omega | assumption | (simp only [*, or_self, or_true, true_or, or_false, false_or, not_true_eq_false, not_false_eq_true, Bool.false_eq_true, Bool.true_eq_false, and_self, and_true, true_and]; done) | (simp only [*]; omega) | (simp [*]; done) | (simp [*]; omega))] at hl | rewrite [if_neg (by first | omega | assumption | (simp only [*, or_self, or_true, true_or, or_false, false_or, not_true_eq_false, not_false_eq_true, Bool.false_eq_true, Bool.true_eq_false, and_self, and_true, true_and]; done) | (simp only [*]; omega) | (simp [*]; done) | (simp [*]; omega))] at hl))); subst hl; ((repeat (first | rewrite [if_pos (by first | omega | assumption | (simp only [*, or_self, or_true, true_or, or_false, false_or, not_true_eq_false, not_false_eq_true, Bool.false_eq_true, Bool.true_eq_false, and_self, and_true, true_and]; done) | (simp only [*]; omega) | (simp [*]; done) | (simp [*]; omega))] at hN | rewrite [if_neg (by first | omega | assumption | (simp only [*, or_self, or_true, true_or, or_false, false_or, not_true_eq_false, not_false_eq_true, Bool.false_eq_true, Bool.true_eq_false, and_self, and_true, true_and]; done) | (simp only [*]; omega) | (simp [*]; done) | (simp [*]; omega))] at hN))); subst hN; first | rfl | omega | (simp [ha]; done)))
      | (rw [ha] at hc hl; ((repeat (first | rewrite [if_pos (by first | omega | assumption | (simp only [*, or_self, or_true, true_or, or_false, false_or, not_true_eq_false, not_false_eq_true, Bool.false_eq_true, Bool.true_eq_false, and_self, and_true, true_and]; done) | (simp only [*]; omega) | (simp [*]; done) | (simp [*]; omega))] at hc | rewrite [if_neg (by first | omega | assumption | (simp only [*, or_self, or_true, true_or, or_false, false_or, not_true_eq_false, not_false_eq_true, Bool.false_eq_true, Bool.true_eq_false, and_self, and_true, true_and]; done) | (simp only [*]; omega) | (simp [*]; done) | (simp [*]; omega))] at hc)); subst hc; ((repeat (first | rewrite [if_pos (by first | omega | assumption | (simp only [*, or_self, or_true, true_or, or_false, false_or, not_true_eq_false, not_false_eq_true, Bool.false_eq_true, Bool.true_eq_false, and_self, and_true, true_and]; done) | (simp only [*]; omega) | (simp [*]; done) | (simp [*]; omega))] at hl | rewrite [if_neg (by first | omega | assumption | (simp only [*, or_self, or_true, true_or, or_false, false_or, not_true_eq_false, not_false_eq_true, Bool.false_eq_true, Bool.true_eq_false, and_self, and_true, true_and]; done) | (simp only [*]; omega) | (simp [*]; done) | (simp [*]; omega))] at hl))); subst hl; ((repeat (first | rewrite [if_pos (by first | omega | assumption | (simp only [*, or_self, or_true, true_or, or_false, false_or, not_true_eq_false, not_false_eq_true, Bool.false_eq_true, Bool.true_eq_false, and_self, and_true, true_and]; done) | (simp only [*]; omega) | (simp [*]; done) | (simp [*]; omega))] at hN | rewrite [if_neg (by first | omega | assumption | (simp only [*, or_self, or_true, true_or, or_false, false_or, not_true_eq_false, not_false_eq_true, Bool.false_eq_true, Bool.true_eq_false, and_self, and_true, true_and]; done) | (simp only [*]; omega) | (simp [*]; done) | (simp [*]; omega))] at hN))); subst hN; first | rfl | omega))
      | trace_state
def hPlayed__c (I : Alg) (args : List D) (hp : List HO) : Option CT := match args, hp with
  | [.v (.one (.ptr 0 0)), .v (.agg [(.p (.int .i64 k)), (.p (.int .i64 i)), (.p (.int .i64 m)), (.p (.list .byte t))])], [.pack [.obj 49 [(.row 1), (.p (.int .i64 n))], .row .upl 70 l]] => (fun (l : List Upl) (n k i m : Int) (t : Str) => (some (.one ⟨I.hid (SplOk l n ∧ n ≤ 1000000 ∧ t.length ≤ 1000000), (.ret (.v (.one (.p (.int .i64 (I.hid ((plyC l ⟨k, i, m, t⟩)))))))), [.pack [.obj 49 [(.row 1), (.p (.int .i64 (I.hid ((playN l n ⟨k, i, m, t⟩)))))], .row .upl 70 (I.hid ((playL l n ⟨k, i, m, t⟩)))]]⟩) : Option CT)) l n k i m t
  | _, _ => none
theorem hPlayed__g : GoodC Tryz.prog 79 (hPlayed__c alg) := by
  intro args hp r h
  unfold hPlayed__c at h
  split at h
  · cases h; exact fun hn => hPlayed_ _ _ _ _ _ _ hn
  · cases h
def hPlayed__k : Know Tryz.prog := ⟨79, hPlayed__c, hPlayed__g⟩
def hPlayed__l : Know Tryz.prog := ⟨79, fun I => lendC I (hPlayed__c I), lendC_good hPlayed__g⟩

set_option maxHeartbeats 4000000 in
theorem shWrite_ (l : List Upl) (n : Int) (b : Str) (s k i m : Int) (t : Str) (hneed : okId k i n ∧ SplOk l n ∧ n ≤ 200000 ∧ t.length ≤ 1000000 ∧ b.length ≤ 100000) : Spc Tryz.prog 75 [.v (.one (.ptr 0 0)), .v (.agg [(.p (.int .i64 k)), (.p (.int .i64 i)), (.p (.int .i64 m)), (.p (.list .byte t))])] [.pack [.obj 40 [(.ptr 1 0), (.row 2), (.p (.int .i64 s))], .pack [.obj 49 [(.row 1), (.p (.int .i64 n))], .row .upl 70 l], .row .byte 5 b]] (.ret (.v (.one (.p (.int .i64 ((wrtC l n b ⟨k, i, m, t⟩))))))) [.pack [.obj 40 [(.ptr 1 0), (.row 2), (.p (.int .i64 s))], .pack [.obj 49 [(.row 1), (.p (.int .i64 ((wrtN l n b ⟨k, i, m, t⟩))))], .row .upl 70 ((wrtL l n b ⟨k, i, m, t⟩))], .row .byte 5 ((wrtB l n b ⟨k, i, m, t⟩))]] := by
  obtain ⟨hki, hs, hn, ht, hb⟩ := hneed
  generalize hc : wrtC l n b ⟨k, i, m, t⟩ = c
  generalize hl : wrtL l n b ⟨k, i, m, t⟩ = l'
  generalize hN : wrtN l n b ⟨k, i, m, t⟩ = n'
  generalize hB : wrtB l n b ⟨k, i, m, t⟩ = b'
  have hp : plyC l ⟨k, i, m, t⟩ = playC l n ⟨k, i, m, t⟩ := ply_play hki
  refine spcG tab_ok mixed Tryz.func75 (by kernel_rfl) { cfgSh with keep := some [0, 1, 3, 4, 5, 6, 7, 8] } [entryBytes__k, entryBytes__l, hCopy__k, hCopy__l, hPlayed__k, hPlayed__l] (by kernel_rfl) ?_
  intro I X hI hX
  refine ev_rule (let y0 := I.add (I.len (α := UInt8) b) (I.len (α := UInt8) (I.hid (α := (List UInt8)) (Go.Jrn.encM (Go.Ab.Ent.mk k i m t)))); let y1 := I.hid (α := Int) (Go.Jrn.encC (Go.Ab.Ent.mk k i m t)); let y2 := I.hid (α := Int) (plyC l (Go.Ab.Ent.mk k i m t)); .need (I.hid (α := (Prop)) (SplOk l n)) (.need (I.hid (α := (Prop)) (And (SplOk l n) (And (LE.le n (1000000 : Int)) (LE.le (List.length t) 1000000)))) (.br (I.bnot (I.ieq y2 0)) (.fin (.ret (.v (.one (.p (.int .i64 y2))))) [(.pack [(.obj 40 [(.ptr 1 0), (.row 2), (.p (.int .i64 s))]), (.pack [(.obj 49 [(.row 1), (.p (.int .i64 n))]), (.row .upl 70 l)]), (.row .byte 5 b)])]) (.need (I.hid (α := (Prop)) True) (.br (I.bnot (I.ieq y1 0)) (.fin (.ret (.v (.one (.p (.int .i64 y1))))) [(.pack [(.obj 40 [(.ptr 1 0), (.row 2), (.p (.int .i64 s))]), (.pack [(.obj 49 [(.row 1), (.p (.int .i64 n))]), (.row .upl 70 l)]), (.row .byte 5 b)])]) (.need (I.inr Go.IntKind.i64 y0) (.br (I.ilt 100000 y0) (.fin (.ret (.v (.one (.p (.int .i64 16))))) [(.pack [(.obj 40 [(.ptr 1 0), (.row 2), (.p (.int .i64 s))]), (.pack [(.obj 49 [(.row 1), (.p (.int .i64 n))]), (.row .upl 70 l)]), (.row .byte 5 b)])]) (.need (I.few y0 140737488355328) (.fin (.ret (.v (.one (.p (.int .i64 0))))) [(.pack [(.obj 40 [(.ptr 1 0), (.row 2), (.p (.int .i64 s))]), (.pack [(.obj 49 [(.row 1), (.p (.int .i64 (I.hid (α := Int) (playN l n (Go.Ab.Ent.mk k i m t)))))]), (.row .upl 70 (I.hid (α := (List Go.Ab.Upl)) (playL l n (Go.Ab.Ent.mk k i m t))))]), (.row .byte 5 (I.app (α := UInt8) b (I.hid (α := (List UInt8)) (Go.Jrn.encM (Go.Ab.Ent.mk k i m t)))))])]))))))))) (by kernel_rfl) ?_
  simp only [instL]
  subst hI
  simp only [nrmA, nrmB, nrlB, reduceCtorEq, HO.pack.injEq, HO.obj.injEq]
  have hel : (encM ⟨k, i, m, t⟩).length ≤ 2000000 := by
    unfold encM
    split
    · rename_i h
      have := encB_len h
      simp only at this
      omega
    · simp
  rw [hp]
  generalize he : (⟨k, i, m, t⟩ : Ent) = e at *
  have hem : encC e = 0 → encM e = encB e := fun h => by
    unfold encC at h
    unfold encM
    split at h
    · rename_i h2; rw [if_pos h2]
    · cases h
  unfold wrtL at hl
  unfold wrtN at hN
  unfold wrtB at hB
  rw [hc] at hl hN hB
  unfold wrtC wrC at hc
  (repeat' (first | refine And.intro ?_ ?_ | intro _)) <;> first | omega | exact True.intro | exact False.elim ‹False› | skip
  all_goals first
    | exact hs
    | exact hn
    | exact ht
    | exact ⟨hs, hn, ht⟩
    | (((repeat (first | rewrite [if_pos (by first | omega | assumption | (simp only [*, or_self, or_true, true_or, or_false, false_or, not_true_eq_false, not_false_eq_true, Bool.false_eq_true, Bool.true_eq_false, and_self, and_true, true_and]; done) | (simp only [*]; omega) | (simp [*]; done) | (simp [*]; omega))] at hc | rewrite [if_neg (by first | omega | assumption | (simp only [*, or_self, or_true, true_or, or_false, false_or, not_true_eq_false, not_false_eq_true, Bool.false_eq_true, Bool.true_eq_false, and_self, and_true, true_and]; done) | (simp only [*]; omega) | (simp [*]; done) | (simp [*]; omega))] at hc))); subst hc; ((repeat (first | rewrite [if_pos (by first | omega | assumption | (simp only [*, or_self, or_true, true_or, or_false, false_or, not_true_eq_false, not_false_eq_true, Bool.false_eq_true, Bool.true_eq_false, and_self, and_true, true_and]; done) | (simp only [*]; omega) | (simp [*]; done) | (simp [*]; omega))] at hl | rewrite [if_neg (by first | omega | assumption | (simp only [*, or_self, or_true, true_or, or_false, false_or, not_true_eq_false, not_false_eq_true, Bool.false_eq_true, Bool.true_eq_false, and_self, and_true, true_and]; done) | (simp only [*]; omega) | (simp [*]; done) | (simp [*]; omega))] at hl))); subst hl; ((repeat (first | rewrite [if_pos (by first | omega | assumption | (simp only [*, or_self, or_true, true_or, or_false, false_or, not_true_eq_false, not_false_eq_true, Bool.false_eq_true, Bool.true_eq_false, and_self, and_true, true_and]; done) | (simp only [*]; omega) | (simp [*]; done) | (simp [*]; omega))] at hN | rewrite [if_neg (by first | omega | assumption | (simp only [*, or_self, or_true, true_or, or_false, false_or, not_true_eq_false, not_false_eq_true, Bool.false_eq_true, Bool.true_eq_false, and_self, and_true, true_and]; done) | (simp only [*]; omega) | (simp [*]; done) | (simp [*]; omega))] at hN))); subst hN; ((repeat (first | rewrite [if_pos (by first | omega | assumption | (simp only [*, or_self, or_true, true_or, or_false, false_or, not_true_eq_false, not_false_eq_true, Bool.false_eq_true, Bool.true_eq_false, and_self, and_true, true_and]; done) | (simp only [*]; omega) | (simp [*]; done) | (simp [*]; omega))] at hB | rewrite [if_neg (by first | omega | assumption | (simp only [*, or_self, or_true, true_or, or_false, false_or, not_true_eq_false, not_false_eq_true, Bool.false_eq_true, Bool.true_eq_false, and_self, and_true, true_and]; done) | (simp only [*]; omega) | (simp [*]; done) | (simp [*]; omega))] at hB))); subst hB; first | rfl | omega | (rw [hem (by assumption)]))
    | trace_state
def shWrite__c (I : Alg) (args : List D) (hp : List HO) : Option CT := match args, hp with
  | [.v (.one (.ptr 0 0)), .v (.agg [(.p (.int .i64 k)), (.p (.int .i64 i)), (.p (.int .i64 m)), (.p (.list .byte t))])], [.pack [.obj 40 [(.ptr 1 0), (.row 2), (.p (.int .i64 s))], .pack [.obj 49 [(.row 1), (.p (.int .i64 n))], .row .upl 70 l], .row .byte 5 b]] => (fun (l : List Upl) (n : Int) (b : Str) (s k i m : Int) (t : Str) => (some (.one ⟨I.hid (okId k i n ∧ SplOk l n ∧ n ≤ 200000 ∧ t.length ≤ 1000000 ∧ b.length ≤ 100000), (.ret (.v (.one (.p (.int .i64 (I.hid ((wrtC l n b ⟨k, i, m, t⟩)))))))), [.pack [.obj 40 [(.ptr 1 0), (.row 2), (.p (.int .i64 s))], .pack [.obj 49 [(.row 1), (.p (.int .i64 (I.hid ((wrtN l n b ⟨k, i, m, t⟩)))))], .row .upl 70 (I.hid ((wrtL l n b ⟨k, i, m, t⟩)))], .row .byte 5 (I.hid ((wrtB l n b ⟨k, i, m, t⟩)))]]⟩) : Option CT)) l n b s k i m t
  | _, _ => none
theorem shWrite__g : GoodC Tryz.prog 75 (shWrite__c alg) := by
  intro args hp r h
  unfold shWrite__c at h
  split at h
  · cases h; exact fun hn => shWrite_ _ _ _ _ _ _ _ _ hn
  · cases h
def shWrite__k : Know Tryz.prog := ⟨75, shWrite__c, shWrite__g⟩
def shWrite__l : Know Tryz.prog := ⟨75, fun I => lendC I (shWrite__c I), lendC_good shWrite__g⟩

theorem shCreate_ (l : List Upl) (n : Int) (b : Str) (s size : Int) (t : Str) (hneed : SplOk l n ∧ n ≤ 200000 ∧ t.length ≤ 1000000 ∧ b.length ≤ 100000) : Spc Tryz.prog 39 [.v (.one (.ptr 0 0)), .v (.one (.p (.int .i64 size))), .v (.one (.p (.str t)))] [.pack [.obj 40 [(.ptr 1 0), (.row 2), (.p (.int .i64 s))], .pack [.obj 49 [(.row 1), (.p (.int .i64 n))], .row .upl 70 l], .row .byte 5 b]] (.ret (.tup [(.one (.p (.int .i64 ((if wrtC l n b ⟨1, n + 1, size, t⟩ = 0 then n + 1 else 0))))), (.one (.p (.int .i64 ((wrtC l n b ⟨1, n + 1, size, t⟩)))))])) [.pack [.obj 40 [(.ptr 1 0), (.row 2), (.p (.int .i64 s))], .pack [.obj 49 [(.row 1), (.p (.int .i64 ((wrtN l n b ⟨1, n + 1, size, t⟩))))], .row .upl 70 ((wrtL l n b ⟨1, n + 1, size, t⟩))], .row .byte 5 ((wrtB l n b ⟨1, n + 1, size, t⟩))]] := by
  have hn0 := hneed.1.n0
  refine spcG tab_ok mixed Tryz.func39 (by kernel_rfl) { cfgSh with keep := some [0, 1, 2, 6, 7, 8, 9] } [shWrite__k, shWrite__l] (by kernel_rfl) ?_
  intro I X hI hX
  refine ev_rule (let y0 := I.hid (α := (List Go.Ab.Upl)) (wrtL l n b (Go.Ab.Ent.mk (1 : Int) (I.add n 1) size t)); let y1 := I.hid (α := (List UInt8)) (wrtB l n b (Go.Ab.Ent.mk (1 : Int) (I.add n 1) size t)); let y2 := I.hid (α := Int) (wrtC l n b (Go.Ab.Ent.mk (1 : Int) (I.add n 1) size t)); let y3 := I.hid (α := Int) (wrtN l n b (Go.Ab.Ent.mk (1 : Int) (I.add n 1) size t)); .need (I.inr Go.IntKind.i64 (I.add n 1)) (.need (I.hid (α := (Prop)) (And (okId (1 : Int) (I.add n 1) n) (And (SplOk l n) (And (LE.le n (200000 : Int)) (And (LE.le (List.length t) 1000000) (LE.le (List.length b) 100000)))))) (.br (I.bnot (I.ieq y2 0)) (.fin (.ret (.tup [(.one (.p (.int .i64 0))), (.one (.p (.int .i64 y2)))])) [(.pack [(.obj 40 [(.ptr 1 0), (.row 2), (.p (.int .i64 s))]), (.pack [(.obj 49 [(.row 1), (.p (.int .i64 y3))]), (.row .upl 70 y0)]), (.row .byte 5 y1)])]) (.fin (.ret (.tup [(.one (.p (.int .i64 (I.add n 1)))), (.one (.p (.int .i64 0)))])) [(.pack [(.obj 40 [(.ptr 1 0), (.row 2), (.p (.int .i64 s))]), (.pack [(.obj 49 [(.row 1), (.p (.int .i64 y3))]), (.row .upl 70 y0)]), (.row .byte 5 y1)])])))) (by kernel_rfl) ?_
  simp only [instL]
  subst hI
  simp only [nrmA, nrmB, nrlB, reduceCtorEq, HO.pack.injEq, HO.obj.injEq]
  (repeat' (first | refine And.intro ?_ ?_ | intro _)) <;> first | omega | exact True.intro | exact False.elim ‹False› | skip
  all_goals first
    | exact hneed
    | exact hneed.1
    | exact hneed.2
    | (rw [if_neg (by assumption)])
    | (rw [if_pos (by assumption)])
    | (exact ⟨fun _ => rfl, hneed⟩)
    | trivial
    | exact hn0
    | omega
    | trace_state
def shCreate__c (I : Alg) (args : List D) (hp : List HO) : Option CT := match args, hp with
  | [.v (.one (.ptr 0 0)), .v (.one (.p (.int .i64 size))), .v (.one (.p (.str t)))], [.pack [.obj 40 [(.ptr 1 0), (.row 2), (.p (.int .i64 s))], .pack [.obj 49 [(.row 1), (.p (.int .i64 n))], .row .upl 70 l], .row .byte 5 b]] => (fun (l : List Upl) (n : Int) (b : Str) (s size : Int) (t : Str) => (some (.one ⟨I.hid (SplOk l n ∧ n ≤ 200000 ∧ t.length ≤ 1000000 ∧ b.length ≤ 100000), (.ret (.tup [(.one (.p (.int .i64 (I.hid ((if wrtC l n b ⟨1, n + 1, size, t⟩ = 0 then n + 1 else 0)))))), (.one (.p (.int .i64 (I.hid ((wrtC l n b ⟨1, n + 1, size, t⟩))))))])), [.pack [.obj 40 [(.ptr 1 0), (.row 2), (.p (.int .i64 s))], .pack [.obj 49 [(.row 1), (.p (.int .i64 (I.hid ((wrtN l n b ⟨1, n + 1, size, t⟩)))))], .row .upl 70 (I.hid ((wrtL l n b ⟨1, n + 1, size, t⟩)))], .row .byte 5 (I.hid ((wrtB l n b ⟨1, n + 1, size, t⟩)))]]⟩) : Option CT)) l n b s size t
  | _, _ => none
theorem shCreate__g : GoodC Tryz.prog 39 (shCreate__c alg) := by
  intro args hp r h
  unfold shCreate__c at h
  split at h
  · cases h; exact fun hn => shCreate_ _ _ _ _ _ _ hn
  · cases h
def shCreate__k : Know Tryz.prog := ⟨39, shCreate__c, shCreate__g⟩
def shCreate__l : Know Tryz.prog := ⟨39, fun I => lendC I (shCreate__c I), lendC_good shCreate__g⟩
theorem app_write {l : List Upl} {n : Int} {b : Str} {id off : Int} {x : Str} : (¬ appC l id off x = 0 → appC l id off x = (if apG l id off then 17 else wrtC l n b ⟨2, id, 0, x⟩) ∧ (apG l id off = false → ¬ wrtC l n b ⟨2, id, 0, x⟩ = 0)) ∧ (appC l id off x = 0 → apG l id off = false) := by
  have hle := atU_le l id
  have h2 : playC l n ⟨2, id, 0, x⟩ = appC l id (getU l id).bytes.length x := by unfold playC; simp
  have hw : ¬ playC l n ⟨2, id, 0, x⟩ = 0 → wrtC l n b ⟨2, id, 0, x⟩ = playC l n ⟨2, id, 0, x⟩ := fun h => by unfold wrtC; rw [if_pos h]
  rw [h2] at hw
  by_cases hk : atU l id < l.length
  · have hg : getB l id = true := decide_eq_true hk
    have hu : getU l id = uplAt l id := by unfold getU; rw [if_pos hk]
    rw [hu] at hw
    unfold apG
    rw [hg, hu]
    by_cases ho : off = (uplAt l id).bytes.length
    · rw [← ho] at hw
      simp only [ho, decide_true, Bool.not_true, Bool.and_false, Bool.false_eq_true, if_false]
      rw [← ho]
      exact ⟨fun h => ⟨(hw h).symm, fun _ => by rw [hw h]; exact h⟩, by intros; trivial⟩
    · by_cases hs : (uplAt l id).sent = 0
      · have e : appC l id off x = 17 := by unfold appC; rw [if_neg (by omega), if_neg (by simp [hs]), if_pos ho]
        rw [e]
        simp [ho, hs]
      · have e : appC l id off x = 19 := by unfold appC; rw [if_neg (by omega), if_pos hs]
        have e2 : appC l id (uplAt l id).bytes.length x = 19 := by unfold appC; rw [if_neg (by omega), if_pos hs]
        rw [e2] at hw
        have hw := hw (by decide)
        rw [e, hw]
        simp [hs]
  · have hg : getB l id = false := decide_eq_false hk
    have e1 := app_none (off := off) (b := x) hk
    have e2 := app_none (off := (getU l id).bytes.length) (b := x) hk
    rw [e2] at hw
    have hw := hw (by decide)
    unfold apG
    rw [e1, hg, hw]
    simp

theorem shAppend_ (l : List Upl) (n : Int) (b : Str) (s id off : Int) (x : Str) (hneed : SplOk l n ∧ n ≤ 200000 ∧ x.length ≤ 1000000 ∧ b.length ≤ 100000) : Spc Tryz.prog 40 [.v (.one (.ptr 0 0)), .v (.one (.p (.int .i64 id))), .v (.one (.p (.int .i64 off))), .v (.one (.p (.list .byte x)))] [.pack [.obj 40 [(.ptr 1 0), (.row 2), (.p (.int .i64 s))], .pack [.obj 49 [(.row 1), (.p (.int .i64 n))], .row .upl 70 l], .row .byte 5 b]] (.ret (.v (.one (.p (.int .i64 ((if apG l id off then 17 else wrtC l n b ⟨2, id, 0, x⟩))))))) [.pack [.obj 40 [(.ptr 1 0), (.row 2), (.p (.int .i64 s))], .pack [.obj 49 [(.row 1), (.p (.int .i64 ((if apG l id off then n else wrtN l n b ⟨2, id, 0, x⟩))))], .row .upl 70 ((if apG l id off then l else wrtL l n b ⟨2, id, 0, x⟩))], .row .byte 5 ((if apG l id off then b else wrtB l n b ⟨2, id, 0, x⟩))]] := by
  have ha := app_write (l := l) (n := n) (b := b) (id := id) (off := off) (x := x)
  have hL : ¬ wrtC l n b ⟨2, id, 0, x⟩ = 0 → wrtL l n b ⟨2, id, 0, x⟩ = l ∧ wrtN l n b ⟨2, id, 0, x⟩ = n ∧ wrtB l n b ⟨2, id, 0, x⟩ = b := fun h => by
    unfold wrtL wrtN wrtB; rw [if_neg h, if_neg h, if_neg h]; exact ⟨rfl, rfl, rfl⟩
  generalize hwc : wrtC l n b ⟨2, id, 0, x⟩ = wc at *
  generalize hwl : wrtL l n b ⟨2, id, 0, x⟩ = wl at *
  generalize hwn : wrtN l n b ⟨2, id, 0, x⟩ = wn at *
  generalize hwb : wrtB l n b ⟨2, id, 0, x⟩ = wb at *
  generalize hg : apG l id off = g at *
  have hA := ha.2
  have hB : ¬ appC l id off x = 0 → appC l id off x = (if g then 17 else wc) ∧ (if g then l else wl) = l ∧ (if g then n else wn) = n ∧ (if g then b else wb) = b := fun h => by
    obtain ⟨e, hz⟩ := ha.1 h
    refine ⟨e, ?_⟩
    cases g with
    | true => exact ⟨rfl, rfl, rfl⟩
    | false => exact hL (hz rfl)
  refine spcG tab_ok mixed Tryz.func40 (by kernel_rfl) { cfgSh with keep := some [0, 1, 2, 3, 8, 9, 10] } [hAppend__k, hAppend__l, hCopy__k, hCopy__l, shWrite__k, shWrite__l] (by kernel_rfl) ?_
  intro I X hI hX
  refine ev_rule (let y0 := I.hid (α := Int) (appC l id off x); .need (I.hid (α := (Prop)) (SplOk l n)) (.need (I.hid (α := (Prop)) (And (SplOk l n) (LE.le (List.length x) 1000000))) (.br (I.bnot (I.ieq y0 0)) (.fin (.ret (.v (.one (.p (.int .i64 y0))))) [(.pack [(.obj 40 [(.ptr 1 0), (.row 2), (.p (.int .i64 s))]), (.pack [(.obj 49 [(.row 1), (.p (.int .i64 n))]), (.row .upl 70 l)]), (.row .byte 5 b)])]) (.need (I.hid (α := (Prop)) (And (okId (2 : Int) id n) (And (SplOk l n) (And (LE.le n (200000 : Int)) (And (LE.le (List.length x) 1000000) (LE.le (List.length b) 100000)))))) (.fin (.ret (.v (.one (.p (.int .i64 (I.hid (α := Int) (wrtC l n b (Go.Ab.Ent.mk (2 : Int) id (0 : Int) x)))))))) [(.pack [(.obj 40 [(.ptr 1 0), (.row 2), (.p (.int .i64 s))]), (.pack [(.obj 49 [(.row 1), (.p (.int .i64 (I.hid (α := Int) (wrtN l n b (Go.Ab.Ent.mk (2 : Int) id (0 : Int) x)))))]), (.row .upl 70 (I.hid (α := (List Go.Ab.Upl)) (wrtL l n b (Go.Ab.Ent.mk (2 : Int) id (0 : Int) x))))]), (.row .byte 5 (I.hid (α := (List UInt8)) (wrtB l n b (Go.Ab.Ent.mk (2 : Int) id (0 : Int) x))))])]))))) (by kernel_rfl) ?_
  simp only [instL]
  subst hI
  simp only [nrmA, nrmB, nrlB, reduceCtorEq, HO.pack.injEq, HO.obj.injEq]
  (repeat' (first | refine And.intro ?_ ?_ | intro _)) <;> first | omega | exact True.intro | exact False.elim ‹False› | skip
  all_goals first
    | exact hneed.1
    | exact hneed
    | exact hneed.2.1
    | exact hneed.2.2.1
    | exact hneed.2.2.2
    | exact ⟨fun h => absurd h (by decide), hneed⟩
    | exact fun h => absurd h (by decide)
    | exact (hB (by assumption)).1
    | exact (hB (by assumption)).2.1.symm
    | exact (hB (by assumption)).2.2.1.symm
    | exact (hB (by assumption)).2.2.2.symm
    | (rw [hA (by assumption), if_neg (by decide)]; assumption)
    | omega
    | trace_state
def shAppend__c (I : Alg) (args : List D) (hp : List HO) : Option CT := match args, hp with
  | [.v (.one (.ptr 0 0)), .v (.one (.p (.int .i64 id))), .v (.one (.p (.int .i64 off))), .v (.one (.p (.list .byte x)))], [.pack [.obj 40 [(.ptr 1 0), (.row 2), (.p (.int .i64 s))], .pack [.obj 49 [(.row 1), (.p (.int .i64 n))], .row .upl 70 l], .row .byte 5 b]] => (fun (l : List Upl) (n : Int) (b : Str) (s id off : Int) (x : Str) => (some (.one ⟨I.hid (SplOk l n ∧ n ≤ 200000 ∧ x.length ≤ 1000000 ∧ b.length ≤ 100000), (.ret (.v (.one (.p (.int .i64 (I.hid ((if apG l id off then 17 else wrtC l n b ⟨2, id, 0, x⟩)))))))), [.pack [.obj 40 [(.ptr 1 0), (.row 2), (.p (.int .i64 s))], .pack [.obj 49 [(.row 1), (.p (.int .i64 (I.hid ((if apG l id off then n else wrtN l n b ⟨2, id, 0, x⟩)))))], .row .upl 70 (I.hid ((if apG l id off then l else wrtL l n b ⟨2, id, 0, x⟩)))], .row .byte 5 (I.hid ((if apG l id off then b else wrtB l n b ⟨2, id, 0, x⟩)))]]⟩) : Option CT)) l n b s id off x
  | _, _ => none
theorem shAppend__g : GoodC Tryz.prog 40 (shAppend__c alg) := by
  intro args hp r h
  unfold shAppend__c at h
  split at h
  · cases h; exact fun hn => shAppend_ _ _ _ _ _ _ _ hn
  · cases h
def shAppend__k : Know Tryz.prog := ⟨40, shAppend__c, shAppend__g⟩
def shAppend__l : Know Tryz.prog := ⟨40, fun I => lendC I (shAppend__c I), lendC_good shAppend__g⟩
theorem shDeclare_ (l : List Upl) (n : Int) (b : Str) (s id size : Int) (hneed : SplOk l n ∧ n ≤ 200000 ∧ b.length ≤ 100000) : Spc Tryz.prog 41 [.v (.one (.ptr 0 0)), .v (.one (.p (.int .i64 id))), .v (.one (.p (.int .i64 size)))] [.pack [.obj 40 [(.ptr 1 0), (.row 2), (.p (.int .i64 s))], .pack [.obj 49 [(.row 1), (.p (.int .i64 n))], .row .upl 70 l], .row .byte 5 b]] (.ret (.v (.one (.p (.int .i64 ((wrtC l n b ⟨3, id, size, []⟩))))))) [.pack [.obj 40 [(.ptr 1 0), (.row 2), (.p (.int .i64 s))], .pack [.obj 49 [(.row 1), (.p (.int .i64 ((wrtN l n b ⟨3, id, size, []⟩))))], .row .upl 70 ((wrtL l n b ⟨3, id, size, []⟩))], .row .byte 5 ((wrtB l n b ⟨3, id, size, []⟩))]] := by
  refine spcG tab_ok mixed Tryz.func41 (by kernel_rfl) { cfgSh with keep := some [0, 1, 2, 6] } [shWrite__k, shWrite__l] (by kernel_rfl) ?_
  intro I X hI hX
  refine ev_rule (.need (I.hid (α := (Prop)) (And (okId (3 : Int) id n) (And (SplOk l n) (And (LE.le n (200000 : Int)) (And (LE.le (List.length ([] : List UInt8)) 1000000) (LE.le (List.length b) 100000)))))) (.fin (.ret (.v (.one (.p (.int .i64 (I.hid (α := Int) (wrtC l n b (Go.Ab.Ent.mk (3 : Int) id size ([] : List UInt8))))))))) [(.pack [(.obj 40 [(.ptr 1 0), (.row 2), (.p (.int .i64 s))]), (.pack [(.obj 49 [(.row 1), (.p (.int .i64 (I.hid (α := Int) (wrtN l n b (Go.Ab.Ent.mk (3 : Int) id size ([] : List UInt8))))))]), (.row .upl 70 (I.hid (α := (List Go.Ab.Upl)) (wrtL l n b (Go.Ab.Ent.mk (3 : Int) id size ([] : List UInt8)))))]), (.row .byte 5 (I.hid (α := (List UInt8)) (wrtB l n b (Go.Ab.Ent.mk (3 : Int) id size ([] : List UInt8)))))])])) (by kernel_rfl) ?_
  simp only [instL]
  subst hI
  simp only [nrmA, nrmB, nrlB, reduceCtorEq, HO.pack.injEq, HO.obj.injEq]
  exact ⟨fun h => absurd h (by decide), hneed.1, hneed.2.1, by decide, hneed.2.2⟩
def shDeclare__c (I : Alg) (args : List D) (hp : List HO) : Option CT := match args, hp with
  | [.v (.one (.ptr 0 0)), .v (.one (.p (.int .i64 id))), .v (.one (.p (.int .i64 size)))], [.pack [.obj 40 [(.ptr 1 0), (.row 2), (.p (.int .i64 s))], .pack [.obj 49 [(.row 1), (.p (.int .i64 n))], .row .upl 70 l], .row .byte 5 b]] => (fun (l : List Upl) (n : Int) (b : Str) (s id size : Int) => (some (.one ⟨I.hid (SplOk l n ∧ n ≤ 200000 ∧ b.length ≤ 100000), (.ret (.v (.one (.p (.int .i64 (I.hid ((wrtC l n b ⟨3, id, size, []⟩)))))))), [.pack [.obj 40 [(.ptr 1 0), (.row 2), (.p (.int .i64 s))], .pack [.obj 49 [(.row 1), (.p (.int .i64 (I.hid ((wrtN l n b ⟨3, id, size, []⟩)))))], .row .upl 70 (I.hid ((wrtL l n b ⟨3, id, size, []⟩)))], .row .byte 5 (I.hid ((wrtB l n b ⟨3, id, size, []⟩)))]]⟩) : Option CT)) l n b s id size
  | _, _ => none
theorem shDeclare__g : GoodC Tryz.prog 41 (shDeclare__c alg) := by
  intro args hp r h
  unfold shDeclare__c at h
  split at h
  · cases h; exact fun hn => shDeclare_ _ _ _ _ _ _ hn
  · cases h
def shDeclare__k : Know Tryz.prog := ⟨41, shDeclare__c, shDeclare__g⟩
def shDeclare__l : Know Tryz.prog := ⟨41, fun I => lendC I (shDeclare__c I), lendC_good shDeclare__g⟩

theorem shDrop_ (l : List Upl) (n : Int) (b : Str) (s id : Int) (hneed : SplOk l n ∧ n ≤ 200000 ∧ b.length ≤ 100000) : Spc Tryz.prog 42 [.v (.one (.ptr 0 0)), .v (.one (.p (.int .i64 id)))] [.pack [.obj 40 [(.ptr 1 0), (.row 2), (.p (.int .i64 s))], .pack [.obj 49 [(.row 1), (.p (.int .i64 n))], .row .upl 70 l], .row .byte 5 b]] (.ret (.v (.one (.p (.int .i64 ((wrtC l n b ⟨4, id, 0, []⟩))))))) [.pack [.obj 40 [(.ptr 1 0), (.row 2), (.p (.int .i64 s))], .pack [.obj 49 [(.row 1), (.p (.int .i64 ((wrtN l n b ⟨4, id, 0, []⟩))))], .row .upl 70 ((wrtL l n b ⟨4, id, 0, []⟩))], .row .byte 5 ((wrtB l n b ⟨4, id, 0, []⟩))]] := by
  refine spcG tab_ok mixed Tryz.func42 (by kernel_rfl) { cfgSh with keep := some [0, 1, 4] } [shWrite__k, shWrite__l] (by kernel_rfl) ?_
  intro I X hI hX
  refine ev_rule (.need (I.hid (α := (Prop)) (And (okId (4 : Int) id n) (And (SplOk l n) (And (LE.le n (200000 : Int)) (And (LE.le (List.length ([] : List UInt8)) 1000000) (LE.le (List.length b) 100000)))))) (.fin (.ret (.v (.one (.p (.int .i64 (I.hid (α := Int) (wrtC l n b (Go.Ab.Ent.mk (4 : Int) id (0 : Int) ([] : List UInt8))))))))) [(.pack [(.obj 40 [(.ptr 1 0), (.row 2), (.p (.int .i64 s))]), (.pack [(.obj 49 [(.row 1), (.p (.int .i64 (I.hid (α := Int) (wrtN l n b (Go.Ab.Ent.mk (4 : Int) id (0 : Int) ([] : List UInt8))))))]), (.row .upl 70 (I.hid (α := (List Go.Ab.Upl)) (wrtL l n b (Go.Ab.Ent.mk (4 : Int) id (0 : Int) ([] : List UInt8)))))]), (.row .byte 5 (I.hid (α := (List UInt8)) (wrtB l n b (Go.Ab.Ent.mk (4 : Int) id (0 : Int) ([] : List UInt8)))))])])) (by kernel_rfl) ?_
  simp only [instL]
  subst hI
  simp only [nrmA, nrmB, nrlB, reduceCtorEq, HO.pack.injEq, HO.obj.injEq]
  exact ⟨fun h => absurd h (by decide), hneed.1, hneed.2.1, by decide, hneed.2.2⟩
def shDrop__c (I : Alg) (args : List D) (hp : List HO) : Option CT := match args, hp with
  | [.v (.one (.ptr 0 0)), .v (.one (.p (.int .i64 id)))], [.pack [.obj 40 [(.ptr 1 0), (.row 2), (.p (.int .i64 s))], .pack [.obj 49 [(.row 1), (.p (.int .i64 n))], .row .upl 70 l], .row .byte 5 b]] => (fun (l : List Upl) (n : Int) (b : Str) (s id : Int) => (some (.one ⟨I.hid (SplOk l n ∧ n ≤ 200000 ∧ b.length ≤ 100000), (.ret (.v (.one (.p (.int .i64 (I.hid ((wrtC l n b ⟨4, id, 0, []⟩)))))))), [.pack [.obj 40 [(.ptr 1 0), (.row 2), (.p (.int .i64 s))], .pack [.obj 49 [(.row 1), (.p (.int .i64 (I.hid ((wrtN l n b ⟨4, id, 0, []⟩)))))], .row .upl 70 (I.hid ((wrtL l n b ⟨4, id, 0, []⟩)))], .row .byte 5 (I.hid ((wrtB l n b ⟨4, id, 0, []⟩)))]]⟩) : Option CT)) l n b s id
  | _, _ => none
theorem shDrop__g : GoodC Tryz.prog 42 (shDrop__c alg) := by
  intro args hp r h
  unfold shDrop__c at h
  split at h
  · cases h; exact fun hn => shDrop_ _ _ _ _ _ hn
  · cases h
def shDrop__k : Know Tryz.prog := ⟨42, shDrop__c, shDrop__g⟩
def shDrop__l : Know Tryz.prog := ⟨42, fun I => lendC I (shDrop__c I), lendC_good shDrop__g⟩

theorem shBegin_ (l : List Upl) (n : Int) (b : Str) (s id : Int) (hneed : SplOk l n ∧ n ≤ 200000 ∧ b.length ≤ 100000) : Spc Tryz.prog 43 [.v (.one (.ptr 0 0)), .v (.one (.p (.int .i64 id)))] [.pack [.obj 40 [(.ptr 1 0), (.row 2), (.p (.int .i64 s))], .pack [.obj 49 [(.row 1), (.p (.int .i64 n))], .row .upl 70 l], .row .byte 5 b]] (.ret (.v (.one (.p (.int .i64 ((wrtC l n b ⟨5, id, 0, []⟩))))))) [.pack [.obj 40 [(.ptr 1 0), (.row 2), (.p (.int .i64 s))], .pack [.obj 49 [(.row 1), (.p (.int .i64 ((wrtN l n b ⟨5, id, 0, []⟩))))], .row .upl 70 ((wrtL l n b ⟨5, id, 0, []⟩))], .row .byte 5 ((wrtB l n b ⟨5, id, 0, []⟩))]] := by
  refine spcG tab_ok mixed Tryz.func43 (by kernel_rfl) { cfgSh with keep := some [0, 1, 4] } [shWrite__k, shWrite__l] (by kernel_rfl) ?_
  intro I X hI hX
  refine ev_rule (.need (I.hid (α := (Prop)) (And (okId (5 : Int) id n) (And (SplOk l n) (And (LE.le n (200000 : Int)) (And (LE.le (List.length ([] : List UInt8)) 1000000) (LE.le (List.length b) 100000)))))) (.fin (.ret (.v (.one (.p (.int .i64 (I.hid (α := Int) (wrtC l n b (Go.Ab.Ent.mk (5 : Int) id (0 : Int) ([] : List UInt8))))))))) [(.pack [(.obj 40 [(.ptr 1 0), (.row 2), (.p (.int .i64 s))]), (.pack [(.obj 49 [(.row 1), (.p (.int .i64 (I.hid (α := Int) (wrtN l n b (Go.Ab.Ent.mk (5 : Int) id (0 : Int) ([] : List UInt8))))))]), (.row .upl 70 (I.hid (α := (List Go.Ab.Upl)) (wrtL l n b (Go.Ab.Ent.mk (5 : Int) id (0 : Int) ([] : List UInt8)))))]), (.row .byte 5 (I.hid (α := (List UInt8)) (wrtB l n b (Go.Ab.Ent.mk (5 : Int) id (0 : Int) ([] : List UInt8)))))])])) (by kernel_rfl) ?_
  simp only [instL]
  subst hI
  simp only [nrmA, nrmB, nrlB, reduceCtorEq, HO.pack.injEq, HO.obj.injEq]
  exact ⟨fun h => absurd h (by decide), hneed.1, hneed.2.1, by decide, hneed.2.2⟩
def shBegin__c (I : Alg) (args : List D) (hp : List HO) : Option CT := match args, hp with
  | [.v (.one (.ptr 0 0)), .v (.one (.p (.int .i64 id)))], [.pack [.obj 40 [(.ptr 1 0), (.row 2), (.p (.int .i64 s))], .pack [.obj 49 [(.row 1), (.p (.int .i64 n))], .row .upl 70 l], .row .byte 5 b]] => (fun (l : List Upl) (n : Int) (b : Str) (s id : Int) => (some (.one ⟨I.hid (SplOk l n ∧ n ≤ 200000 ∧ b.length ≤ 100000), (.ret (.v (.one (.p (.int .i64 (I.hid ((wrtC l n b ⟨5, id, 0, []⟩)))))))), [.pack [.obj 40 [(.ptr 1 0), (.row 2), (.p (.int .i64 s))], .pack [.obj 49 [(.row 1), (.p (.int .i64 (I.hid ((wrtN l n b ⟨5, id, 0, []⟩)))))], .row .upl 70 (I.hid ((wrtL l n b ⟨5, id, 0, []⟩)))], .row .byte 5 (I.hid ((wrtB l n b ⟨5, id, 0, []⟩)))]]⟩) : Option CT)) l n b s id
  | _, _ => none
theorem shBegin__g : GoodC Tryz.prog 43 (shBegin__c alg) := by
  intro args hp r h
  unfold shBegin__c at h
  split at h
  · cases h; exact fun hn => shBegin_ _ _ _ _ _ hn
  · cases h
def shBegin__k : Know Tryz.prog := ⟨43, shBegin__c, shBegin__g⟩
def shBegin__l : Know Tryz.prog := ⟨43, fun I => lendC I (shBegin__c I), lendC_good shBegin__g⟩

theorem shEnd_ (l : List Upl) (n : Int) (b : Str) (s id : Int) (hneed : SplOk l n ∧ n ≤ 200000 ∧ b.length ≤ 100000) : Spc Tryz.prog 44 [.v (.one (.ptr 0 0)), .v (.one (.p (.int .i64 id)))] [.pack [.obj 40 [(.ptr 1 0), (.row 2), (.p (.int .i64 s))], .pack [.obj 49 [(.row 1), (.p (.int .i64 n))], .row .upl 70 l], .row .byte 5 b]] (.ret (.v (.one (.p (.int .i64 ((wrtC l n b ⟨6, id, 0, []⟩))))))) [.pack [.obj 40 [(.ptr 1 0), (.row 2), (.p (.int .i64 s))], .pack [.obj 49 [(.row 1), (.p (.int .i64 ((wrtN l n b ⟨6, id, 0, []⟩))))], .row .upl 70 ((wrtL l n b ⟨6, id, 0, []⟩))], .row .byte 5 ((wrtB l n b ⟨6, id, 0, []⟩))]] := by
  refine spcG tab_ok mixed Tryz.func44 (by kernel_rfl) { cfgSh with keep := some [0, 1, 4] } [shWrite__k, shWrite__l] (by kernel_rfl) ?_
  intro I X hI hX
  refine ev_rule (.need (I.hid (α := (Prop)) (And (okId (6 : Int) id n) (And (SplOk l n) (And (LE.le n (200000 : Int)) (And (LE.le (List.length ([] : List UInt8)) 1000000) (LE.le (List.length b) 100000)))))) (.fin (.ret (.v (.one (.p (.int .i64 (I.hid (α := Int) (wrtC l n b (Go.Ab.Ent.mk (6 : Int) id (0 : Int) ([] : List UInt8))))))))) [(.pack [(.obj 40 [(.ptr 1 0), (.row 2), (.p (.int .i64 s))]), (.pack [(.obj 49 [(.row 1), (.p (.int .i64 (I.hid (α := Int) (wrtN l n b (Go.Ab.Ent.mk (6 : Int) id (0 : Int) ([] : List UInt8))))))]), (.row .upl 70 (I.hid (α := (List Go.Ab.Upl)) (wrtL l n b (Go.Ab.Ent.mk (6 : Int) id (0 : Int) ([] : List UInt8)))))]), (.row .byte 5 (I.hid (α := (List UInt8)) (wrtB l n b (Go.Ab.Ent.mk (6 : Int) id (0 : Int) ([] : List UInt8)))))])])) (by kernel_rfl) ?_
  simp only [instL]
  subst hI
  simp only [nrmA, nrmB, nrlB, reduceCtorEq, HO.pack.injEq, HO.obj.injEq]
  exact ⟨fun h => absurd h (by decide), hneed.1, hneed.2.1, by decide, hneed.2.2⟩
def shEnd__c (I : Alg) (args : List D) (hp : List HO) : Option CT := match args, hp with
  | [.v (.one (.ptr 0 0)), .v (.one (.p (.int .i64 id)))], [.pack [.obj 40 [(.ptr 1 0), (.row 2), (.p (.int .i64 s))], .pack [.obj 49 [(.row 1), (.p (.int .i64 n))], .row .upl 70 l], .row .byte 5 b]] => (fun (l : List Upl) (n : Int) (b : Str) (s id : Int) => (some (.one ⟨I.hid (SplOk l n ∧ n ≤ 200000 ∧ b.length ≤ 100000), (.ret (.v (.one (.p (.int .i64 (I.hid ((wrtC l n b ⟨6, id, 0, []⟩)))))))), [.pack [.obj 40 [(.ptr 1 0), (.row 2), (.p (.int .i64 s))], .pack [.obj 49 [(.row 1), (.p (.int .i64 (I.hid ((wrtN l n b ⟨6, id, 0, []⟩)))))], .row .upl 70 (I.hid ((wrtL l n b ⟨6, id, 0, []⟩)))], .row .byte 5 (I.hid ((wrtB l n b ⟨6, id, 0, []⟩)))]]⟩) : Option CT)) l n b s id
  | _, _ => none
theorem shEnd__g : GoodC Tryz.prog 44 (shEnd__c alg) := by
  intro args hp r h
  unfold shEnd__c at h
  split at h
  · cases h; exact fun hn => shEnd_ _ _ _ _ _ hn
  · cases h
def shEnd__k : Know Tryz.prog := ⟨44, shEnd__c, shEnd__g⟩
def shEnd__l : Know Tryz.prog := ⟨44, fun I => lendC I (shEnd__c I), lendC_good shEnd__g⟩

theorem shRoom_ (l : List Upl) (n : Int) (b : Str) (s m : Int) (hneed : b.length ≤ 100000) : Spc Tryz.prog 18 [.v (.one (.ptr 0 0)), .v (.one (.p (.int .i64 m)))] [.pack [.obj 40 [(.ptr 1 0), (.row 2), (.p (.int .i64 s))], .pack [.obj 49 [(.row 1), (.p (.int .i64 n))], .row .upl 70 l], .row .byte 5 b]] (.ret (.v (.one (.p (.bool ((decide (0 ≤ m) && decide (m ≤ 100000 - b.length)))))))) [.pack [.obj 40 [(.ptr 1 0), (.row 2), (.p (.int .i64 s))], .pack [.obj 49 [(.row 1), (.p (.int .i64 n))], .row .upl 70 l], .row .byte 5 b]] := by
  refine spcG tab_ok mixed Tryz.func18 (by kernel_rfl) { cfgSh with keep := some [0, 1, 4] } [] (by kernel_rfl) ?_
  intro I X hI hX
  refine ev_rule (let y0 := I.sub 100000 (I.len (α := UInt8) b); .br (I.ile 0 m) (.need (I.inr Go.IntKind.i64 y0) (.fin (.ret (.v (.one (.p (.bool (I.ile m y0)))))) [(.pack [(.obj 40 [(.ptr 1 0), (.row 2), (.p (.int .i64 s))]), (.pack [(.obj 49 [(.row 1), (.p (.int .i64 n))]), (.row .upl 70 l)]), (.row .byte 5 b)])])) (.fin (.ret (.v (.one (.p (.bool Bool.false))))) [(.pack [(.obj 40 [(.ptr 1 0), (.row 2), (.p (.int .i64 s))]), (.pack [(.obj 49 [(.row 1), (.p (.int .i64 n))]), (.row .upl 70 l)]), (.row .byte 5 b)])])) (by kernel_rfl) ?_
  simp only [instL]
  subst hI
  simp only [nrmA, nrmB, nrlB, reduceCtorEq, HO.pack.injEq, HO.obj.injEq]
  (repeat' (first | refine And.intro ?_ ?_ | intro _)) <;> first | omega | exact True.intro | exact False.elim ‹False› | skip
  all_goals first
    | (rw [decide_eq_true (p := 0 ≤ m) (by assumption), Bool.true_and])
    | (rw [decide_eq_false (p := 0 ≤ m) (by assumption), Bool.false_and])
    | omega
    | trace_state
def shRoom__c (I : Alg) (args : List D) (hp : List HO) : Option CT := match args, hp with
  | [.v (.one (.ptr 0 0)), .v (.one (.p (.int .i64 m)))], [.pack [.obj 40 [(.ptr 1 0), (.row 2), (.p (.int .i64 s))], .pack [.obj 49 [(.row 1), (.p (.int .i64 n))], .row .upl 70 l], .row .byte 5 b]] => (fun (l : List Upl) (n : Int) (b : Str) (s m : Int) => (some (.one ⟨I.hid (b.length ≤ 100000), (.ret (.v (.one (.p (.bool (I.hid ((decide (0 ≤ m) && decide (m ≤ 100000 - b.length))))))))), [.pack [.obj 40 [(.ptr 1 0), (.row 2), (.p (.int .i64 s))], .pack [.obj 49 [(.row 1), (.p (.int .i64 n))], .row .upl 70 l], .row .byte 5 b]]⟩) : Option CT)) l n b s m
  | _, _ => none
theorem shRoom__g : GoodC Tryz.prog 18 (shRoom__c alg) := by
  intro args hp r h
  unfold shRoom__c at h
  split at h
  · cases h; exact fun hn => shRoom_ _ _ _ _ _ hn
  · cases h
def shRoom__k : Know Tryz.prog := ⟨18, shRoom__c, shRoom__g⟩
def shRoom__l : Know Tryz.prog := ⟨18, fun I => lendC I (shRoom__c I), lendC_good shRoom__g⟩

theorem shSync_ (l : List Upl) (n : Int) (b : Str) (s : Int) : Spc Tryz.prog 45 [.v (.one (.ptr 0 0))] [.pack [.obj 40 [(.ptr 1 0), (.row 2), (.p (.int .i64 s))], .pack [.obj 49 [(.row 1), (.p (.int .i64 n))], .row .upl 70 l], .row .byte 5 b]] (.ret (.tup [])) [.pack [.obj 40 [(.ptr 1 0), (.row 2), (.p (.int .i64 ((b.length : Int))))], .pack [.obj 49 [(.row 1), (.p (.int .i64 n))], .row .upl 70 l], .row .byte 5 b]] := by
  refine spcG tab_ok mixed Tryz.func45 (by kernel_rfl) { cfgSh with keep := some [0] } [] (by kernel_rfl) ?_
  intro I X hI hX
  refine ev_rule (.fin (.ret (.tup [])) [(.pack [(.obj 40 [(.ptr 1 0), (.row 2), (.p (.int .i64 (I.len (α := UInt8) b)))]), (.pack [(.obj 49 [(.row 1), (.p (.int .i64 n))]), (.row .upl 70 l)]), (.row .byte 5 b)])]) (by kernel_rfl) ?_
  simp only [instL]
  subst hI
  simp only [nrmA, nrmB, nrlB, reduceCtorEq, HO.pack.injEq, HO.obj.injEq]
  try trivial
def shSync__c (I : Alg) (args : List D) (hp : List HO) : Option CT := match args, hp with
  | [.v (.one (.ptr 0 0))], [.pack [.obj 40 [(.ptr 1 0), (.row 2), (.p (.int .i64 s))], .pack [.obj 49 [(.row 1), (.p (.int .i64 n))], .row .upl 70 l], .row .byte 5 b]] => (fun (l : List Upl) (n : Int) (b : Str) (s : Int) => (some (.one ⟨I.hid (True), (.ret (.tup [])), [.pack [.obj 40 [(.ptr 1 0), (.row 2), (.p (.int .i64 (I.hid ((b.length : Int)))))], .pack [.obj 49 [(.row 1), (.p (.int .i64 n))], .row .upl 70 l], .row .byte 5 b]]⟩) : Option CT)) l n b s
  | _, _ => none
theorem shSync__g : GoodC Tryz.prog 45 (shSync__c alg) := by
  intro args hp r h
  unfold shSync__c at h
  split at h
  · cases h; exact fun hn => shSync_ _ _ _ _
  · cases h
def shSync__k : Know Tryz.prog := ⟨45, shSync__c, shSync__g⟩
def shSync__l : Know Tryz.prog := ⟨45, fun I => lendC I (shSync__c I), lendC_good shSync__g⟩
end Go.Proofs.YtjapkdcomcgamaaGreatDoor
