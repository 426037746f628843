/- A store: what it is, in plain words. -/
import Derived.Test.YtjapkdcomcgamaaGreatDoorSplB
import Derived.Test.YtjapkdcomcgamaaGreatDoorJrnC
import Derived.Test.YtjapkdcomcgamaaGreatDoorJrnG
import Derived.Test.YtjapkdcomcgamaaGreatDoorJrnP
set_option linter.all false
namespace Go.Proofs.YtjapkdcomcgamaaGreatDoor
open Go Go.Sep Go.Ab Go.Jrn

/-- What an entry says, done. -/
def playC (l : List Upl) (n : Int) (e : Ent) : Int :=
  if e.kind = 1 then (if creC l e.n e.text = 0 ∧ ¬ n + 1 = e.id then 20 else creC l e.n e.text)
  else if e.kind = 2 then appC l e.id (getU l e.id).bytes.length e.text
  else if e.kind = 3 then decC l e.id e.n
  else if e.kind = 4 then droC l e.id
  else if e.kind = 5 then begC l e.id
  else endC l e.id
def playL (l : List Upl) (n : Int) (e : Ent) : List Upl :=
  if e.kind = 1 then creL l n e.n e.text
  else if e.kind = 2 then appL l e.id (getU l e.id).bytes.length e.text
  else if e.kind = 3 then decL l e.id e.n
  else if e.kind = 4 then droL l e.id
  else if e.kind = 5 then begL l e.id
  else endL l e.id
def playN (l : List Upl) (n : Int) (e : Ent) : Int := if e.kind = 1 then creN l n e.n e.text else n
theorem play_ok {l : List Upl} {n : Int} (h : SplOk l n) (e : Ent) : SplOk (playL l n e) (playN l n e) := by
  unfold playL playN
  split
  · exact cre_ok h _ _
  split
  · exact app_ok h _ _ _
  split
  · exact dec_ok h _ _
  split
  · exact dro_ok h _
  split
  · exact beg_ok h _
  · exact end_ok h _
theorem playN_le (l : List Upl) (n : Int) (e : Ent) : n ≤ playN l n e ∧ playN l n e ≤ n + 1 := by
  unfold playN creN
  split
  · split <;> omega
  · omega
def replay : List Upl × Int → List Ent → List Upl × Int
  | p, [] => p
  | p, e :: es => replay (playL p.1 p.2 e, playN p.1 p.2 e) es
theorem replay_app : ∀ (a b : List Ent) (p : List Upl × Int), replay p (a ++ b) = replay (replay p a) b
  | [], _, _ => rfl
  | _ :: a, b, _ => replay_app a b _
theorem replay_ok : ∀ (es : List Ent) (p : List Upl × Int), SplOk p.1 p.2 → SplOk (replay p es).1 (replay p es).2
  | [], _, h => h
  | e :: es, _, h => replay_ok es _ (play_ok h e)
theorem replay_n : ∀ (es : List Ent) (p : List Upl × Int), (replay p es).2 ≤ p.2 + es.length
  | [], _ => by simp [replay]
  | e :: es, p => by
    have := replay_n es (playL p.1 p.2 e, playN p.1 p.2 e)
    have := playN_le p.1 p.2 e
    simp only [replay, List.length_cons] at *
    omega
theorem replay_take {es : List Ent} {i : Nat} (p : List Upl × Int) (h : i < es.length) : replay p (es.take (i + 1)) = (playL (replay p (es.take i)).1 (replay p (es.take i)).2 es[i], playN (replay p (es.take i)).1 (replay p (es.take i)).2 es[i]) := by
  rw [List.take_succ_eq_append_getElem h, replay_app]; rfl

/-- A step that is written to the log. -/
def wrtC (l : List Upl) (n : Int) (b : Str) (e : Ent) : Int :=
  if ¬ playC l n e = 0 then playC l n e else if ¬ encC e = 0 then encC e else wrC b (encM e)
def wrtL (l : List Upl) (n : Int) (b : Str) (e : Ent) : List Upl := if wrtC l n b e = 0 then playL l n e else l
def wrtN (l : List Upl) (n : Int) (b : Str) (e : Ent) : Int := if wrtC l n b e = 0 then playN l n e else n
def wrtB (l : List Upl) (n : Int) (b : Str) (e : Ent) : Str := if wrtC l n b e = 0 then b ++ encB e else b
theorem wrt_ok {l : List Upl} {n : Int} (h : SplOk l n) (b : Str) (e : Ent) : SplOk (wrtL l n b e) (wrtN l n b e) := by
  unfold wrtL wrtN
  split
  · exact play_ok h e
  · exact h
theorem wrtN_le (l : List Upl) (n : Int) (b : Str) (e : Ent) : n ≤ wrtN l n b e ∧ wrtN l n b e ≤ n + 1 := by
  have := playN_le l n e
  unfold wrtN
  split <;> omega
theorem wrt_zero {l : List Upl} {n : Int} {b : Str} {e : Ent} (h : wrtC l n b e = 0) : playC l n e = 0 ∧ mayM e = true ∧ b.length + (encB e).length ≤ 100000 := by
  unfold wrtC at h
  split at h
  · rename_i h1; exact absurd h h1
  rename_i h1
  split at h
  · rename_i h2; exact absurd h h2
  rename_i h2
  have hm : mayM e = true := by
    unfold encC at h2
    cases hm : mayM e with
    | true => rfl
    | false => rw [hm] at h2; simp at h2
  unfold wrC at h
  split at h
  · rename_i h3
    refine ⟨Decidable.not_not.1 h1, hm, ?_⟩
    unfold encM at h3
    rw [if_pos hm] at h3
    exact h3
  · cases h
theorem wrtB_len {l : List Upl} {n : Int} {b : Str} (e : Ent) (h : b.length ≤ 100000) : (wrtB l n b e).length ≤ 100000 := by
  unfold wrtB
  split
  · rename_i h1
    rw [List.length_append]; exact (wrt_zero h1).2.2
  · exact h

/-- Behind a crash. -/
def crsB (b : Str) (s k : Int) : Str := cuB (crB b s k) (usedM (crB b s k))
def crsE (b : Str) (s k : Int) : List Ent := (Jrn.dec (crB b s k)).1
def crsP (b : Str) (s k : Int) : List Upl × Int := replay ([], 0) (crsE b s k)
theorem usedM_le (b : Str) : 0 ≤ usedM b ∧ usedM b ≤ b.length := by
  have := Jrn.dec_len b
  unfold usedM
  omega
theorem crs_sure (b : Str) (s k : Int) : cuS (crB b s k) (crB b s k).length (usedM (crB b s k)) = (crsB b s k).length := by
  have := usedM_le (crB b s k)
  unfold crsB cuS cuB
  split
  · rw [List.length_take]; omega
  · rfl
theorem crB_len (b : Str) (s k : Int) : (crB b s k).length ≤ b.length := by unfold crB; rw [List.length_take]; omega
theorem crsB_len (b : Str) (s k : Int) : (crsB b s k).length ≤ b.length := by
  have := crB_len b s k
  unfold crsB cuB
  split
  · rw [List.length_take]; omega
  · exact this
theorem encAll_mem : ∀ {es : List Ent} {e : Ent}, e ∈ es → (encB e).length ≤ (encAll es).length
  | f :: es, e, h => by
    simp only [encAll, List.length_append]
    rcases List.mem_cons.1 h with rfl | h
    · omega
    · have := encAll_mem h; omega
theorem enc_text (e : Ent) : e.text.length ≤ (encB e).length := by unfold encB enc3; simp only [List.length_append]; omega
theorem crsE_small {b : Str} {s k : Int} (h : b.length ≤ 100000) : (crsE b s k).length ≤ 100000 ∧ ∀ e ∈ crsE b s k, e.text.length ≤ 100000 := by
  have h1 := crB_len b s k
  have h2 := Jrn.dec_len (crB b s k)
  have h3 := Jrn.dec_back _ (crB b s k) (Nat.le_refl _)
  have h4 := congrArg List.length h3.1
  rw [List.length_append] at h4
  unfold crsE
  refine ⟨by omega, fun e he => ?_⟩
  have := encAll_mem he
  have := enc_text e
  omega
end Go.Proofs.YtjapkdcomcgamaaGreatDoor
