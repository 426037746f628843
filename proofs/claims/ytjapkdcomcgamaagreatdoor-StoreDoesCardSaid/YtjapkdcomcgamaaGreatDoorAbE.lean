/- An abstract machine for the walks (part 5): the reading operations are sound, all of them. -/
import Derived.Test.YtjapkdcomcgamaaGreatDoorAbD
set_option linter.all false
namespace Go.Ab
open Go Go.Sep
variable [Facts]
section
variable {Pr : Program} {T : Tab} {S : Frz} {K : List CO} {fr : List Chunk} {st : St} {a : Act} {w : World} {W : World → Prop}
variable {dst : Option Tmp} {ty : TypeId} {pos : String} {af : Array Edge} {gd : Option (Nat × Bool)}

theorem wrap_id {k : IntKind} {n : Int} (h : alg.inr k n) : k.wrap n = n := by
  rw [alg_inr] at h
  obtain ⟨h1, h2⟩ := h
  cases k <;> simp [IntKind.min, IntKind.max, IntKind.signed, IntKind.bits] at h1 h2 <;> simp [IntKind.wrap, IntKind.signed, IntKind.bits] <;> omega

theorem move_sound (h : Sit Pr T S K fr st a w) {x : Operand} : QSound Pr S K a W ⟨dst, .move x, ty, pos, af, gd⟩ (qop alg T st (.move x)) := by
  intro Q hq
  simp only [qop] at hq
  split at hq
  · rename_i d hd; exact ⟨_, d, fun _ _ => rfl, h.eval hd, hq⟩
  · exact hq.elim
theorem assign_sound (h : Sit Pr T S K fr st a w) {x : Operand} : QSound Pr S K a W ⟨dst, .assign x, ty, pos, af, gd⟩ (qop alg T st (.assign x)) := by
  intro Q hq
  simp only [qop] at hq
  split at hq
  · rename_i d hd; exact ⟨_, d, fun _ _ => rfl, h.eval hd, hq⟩
  · exact hq.elim
theorem pick_sound (h : Sit Pr T S K fr st a w) {c x y : Operand} : QSound Pr S K a W ⟨dst, .pick c x y, ty, pos, af, gd⟩ (qop alg T st (.pick c x y)) := by
  intro Q hq
  simp only [qop] at hq
  split at hq
  · rename_i hc
    have hb := h.one hc
    generalize hcv : a.eval c = v at hb
    cases hb
    split at hq
    · rename_i d hd; exact ⟨_, d, by simp [Yields, execOp, hcv, asBool], h.eval hd, hq⟩
    · exact hq.elim
  · rename_i hc
    have hb := h.one hc
    generalize hcv : a.eval c = v at hb
    cases hb
    split at hq
    · rename_i d hd; exact ⟨_, d, by simp [Yields, execOp, hcv, asBool], h.eval hd, hq⟩
    · exact hq.elim
  · exact hq.elim
theorem nilCheck_sound (h : Sit Pr T S K fr st a w) {x : Operand} : QSound Pr S K a W ⟨dst, .nilCheck x, ty, pos, af, gd⟩ (qop alg T st (.nilCheck x)) := by
  intro Q hq
  simp only [qop] at hq
  split at hq
  · rename_i k o hx
    have hm := h.eval hx
    have hm0 := hm
    generalize hv : a.eval x = v at hm hm0
    obtain ⟨b, _, rfl⟩ := hm
    exact ⟨_, _, by simp only [Yields, execOp, hv]; intro _ _; rfl, hm0, hq⟩
  · rename_i u k i o hx
    have hm := h.eval hx
    have hm0 := hm
    generalize hv : a.eval x = v at hm hm0
    obtain ⟨_, _, _, _, _, rfl⟩ := hm
    exact ⟨_, _, by simp only [Yields, execOp, hv]; intro _ _; rfl, hm0, hq⟩
  · rename_i u l i o hx
    have hm := h.eval hx
    have hm0 := hm
    generalize hv : a.eval x = v at hm hm0
    obtain ⟨_, _, _, _, _, _, _, rfl⟩ := hm
    exact ⟨_, _, by simp only [Yields, execOp, hv]; intro _ _; rfl, hm0, hq⟩
  · rename_i f caps hx
    have hm := h.eval hx
    have hm0 := hm
    generalize hv : a.eval x = v at hm hm0
    obtain ⟨_, _, rfl⟩ := hm
    exact ⟨_, _, by simp only [Yields, execOp, hv]; intro _ _; rfl, hm0, hq⟩
  · exact hq.elim

theorem okp_sound {o : Oper} {p : P} {v : Value} (hy : Yields Pr a W o v) (hm : MP S p v) : QSound Pr S K a W o (okp p) := fun _ hq => ⟨v, .v (.one (.p p)), hy, hm, hq⟩
theorem need_sound {o : Oper} {p : Prop} {r : QR} (h : p → QSound Pr S K a W o r) : QSound Pr S K a W o (.need p r) := fun Q hq => h hq.1 Q hq.2
theorem no_sound {o : Oper} : QSound Pr S K a W o .no := fun _ hq => hq.elim

theorem arith_sound {o : Oper} {k : IntKind} {n : Int} (hy : Yields Pr a W o (.int k (k.wrap n))) : QSound Pr S K a W o (arithQ alg k n) :=
  need_sound fun hn => by rw [wrap_id hn] at hy; exact okp_sound hy (.int _ _)

theorem bin_int {t yt : Nat} {x y : Operand} {op : BinOp} {k : IntKind} {m n : Int} (hx : a.eval x = .int k m) (hy : a.eval y = .int k n) (hs : isShift op = false) :
    QSound Pr S K a W ⟨dst, .binOp op t x y yt, ty, pos, af, gd⟩ (intQ alg op k m n) := by
  cases op <;> simp only [isShift, Bool.true_eq_false] at hs <;> simp only [intQ]
  case add => exact arith_sound (by simp [Yields, execOp, hx, hy, eqGuard, binOp, Op.intArith, alg_add])
  case sub => exact arith_sound (by simp [Yields, execOp, hx, hy, eqGuard, binOp, Op.intArith, alg_sub])
  case mul => exact arith_sound (by simp [Yields, execOp, hx, hy, eqGuard, binOp, Op.intArith, alg_mul])
  case quo => refine need_sound fun h0 => arith_sound ?_; rw [alg_nne] at h0; simp [Yields, execOp, hx, hy, eqGuard, binOp, Op.intDiv, h0, alg_quo]
  case rem => refine need_sound fun h0 => okp_sound (v := .int k (m.tmod n)) ?_ (.int _ _); rw [alg_nne] at h0; simp [Yields, execOp, hx, hy, eqGuard, binOp, Op.intDiv, h0]
  case and => exact okp_sound (v := .int k (alg.bits .and k m n)) (by simp [Yields, execOp, hx, hy, eqGuard, binOp, Op.intBits, alg]) (.int _ _)
  case or => exact okp_sound (v := .int k (alg.bits .or k m n)) (by simp [Yields, execOp, hx, hy, eqGuard, binOp, Op.intBits, alg]) (.int _ _)
  case xor => exact okp_sound (v := .int k (alg.bits .xor k m n)) (by simp [Yields, execOp, hx, hy, eqGuard, binOp, Op.intBits, alg]) (.int _ _)
  case eql => exact okp_sound (v := .bool (alg.ieq m n)) (by simp [Yields, execOp, hx, hy, eqGuard, binOp, Op.intCmp, alg_ieq]) (.bool _)
  case neq => exact okp_sound (v := .bool (alg.bnot (alg.ieq m n))) (by simp [Yields, execOp, hx, hy, eqGuard, binOp, Op.intCmp, alg_ieq, alg_bnot, bne]) (.bool _)
  case lss => exact okp_sound (v := .bool (alg.ilt m n)) (by simp [Yields, execOp, hx, hy, eqGuard, binOp, Op.intCmp, alg_ilt]) (.bool _)
  case leq => exact okp_sound (v := .bool (alg.ile m n)) (by simp [Yields, execOp, hx, hy, eqGuard, binOp, Op.intCmp, alg_ile]) (.bool _)
  case gtr => exact okp_sound (v := .bool (alg.ilt n m)) (by simp [Yields, execOp, hx, hy, eqGuard, binOp, Op.intCmp, alg_ilt]) (.bool _)
  case geq => exact okp_sound (v := .bool (alg.ile n m)) (by simp [Yields, execOp, hx, hy, eqGuard, binOp, Op.intCmp, alg_ile]) (.bool _)
  all_goals exact no_sound

theorem bin_shift {t yt : Nat} {x y : Operand} {op : BinOp} {k k' : IntKind} {m n : Int} (hx : a.eval x = .int k m) (hy : a.eval y = .int k' n) :
    QSound Pr S K a W ⟨dst, .binOp op t x y yt, ty, pos, af, gd⟩ (shiftQ alg op k m n) := by
  cases op <;> simp only [shiftQ] <;> try exact no_sound
  · refine need_sound fun h0 => ?_
    rw [alg_nng] at h0
    exact okp_sound (v := .int k (alg.shl k m n)) (by simp [Yields, execOp, hx, hy, eqGuard, binOp, Op.shift, show ¬ n < 0 by omega]; intro _ _; rfl) (.int _ _)
  · refine need_sound fun h0 => need_sound fun h1 => need_sound fun h2 => ?_
    rw [alg_nng] at h0
    rw [alg_few] at h1 h2
    refine okp_sound (v := .int k (alg.shr m n)) ?_ (.int _ _)
    have e1 : min n.toNat k.bits = n.toNat := by omega
    have e2 : min n.toNat 64 = n.toNat := by omega
    simp [Yields, execOp, hx, hy, eqGuard, binOp, Op.shift, show ¬ n < 0 by omega, e1]
    intro _ _
    simp only [alg, e2]

theorem bin_str {t yt : Nat} {x y : Operand} {op : BinOp} {m n : Str} (hx : a.eval x = .string (Sep.S m)) (hy : a.eval y = .string (Sep.S n)) :
    QSound Pr S K a W ⟨dst, .binOp op t x y yt, ty, pos, af, gd⟩ (strQ alg op m n) := by
  cases op <;> simp only [strQ] <;> try exact no_sound
  · refine need_sound fun h0 => ?_
    rw [alg_few, alg_add, alg_len, alg_len] at h0
    refine okp_sound (v := .string (Sep.S (alg.app m n))) ?_ (.str _ (by rw [alg_app, List.length_append]; unfold maxLen; omega))
    simp [Yields, execOp, hx, hy, eqGuard, binOp, Op.stringOp, S_append, alg_app]
    omega
  · exact okp_sound (v := .bool (alg.seq m n)) (by simp [Yields, execOp, hx, hy, eqGuard, binOp, Op.stringOp, alg_seq]) (.bool _)
  · exact okp_sound (v := .bool (alg.bnot (alg.seq m n))) (by simp [Yields, execOp, hx, hy, eqGuard, binOp, Op.stringOp, alg_seq, alg_bnot]) (.bool _)

theorem boolC_sound {c : C} {b : Bool} {bs : List Value} {v : Value} (h : boolC c = some b) (hm : MC S bs c v) : v = .bool b := by
  unfold boolC at h
  split at h
  · cases h; cases hm; rfl
  · cases h; cases hm; rfl
  · cases h

theorem run_equal_bool {t : Nat} (ht : Pr.underlying t = some .bool) (b c : Bool) : (Op.equal t (.bool b) (.bool c)).run Pr w = .ok (b == c) w := by
  unfold Op.equal Op.maxDepth Op.equalIn
  simp [run_underlying ht]
theorem run_equal_nilptr {t e : Nat} (ht : Pr.underlying t = some (.pointer e)) (p : Addr) : (Op.equal t (.pointer (some p)) (.pointer none)).run Pr w = .ok false w := by
  unfold Op.equal Op.maxDepth Op.equalIn
  simp [run_underlying ht]

theorem run_equal_slice {t e : Nat} (ht : Pr.underlying t = some (.slice e)) (ao : Option Addr) (n cap : Nat) : (Op.equal t (.slice ao n cap) (.slice none 0 0)).run Pr w = .ok ao.isNone w := by
  unfold Op.equal Op.maxDepth Op.equalIn
  cases ao <;> simp [run_underlying ht]
/-- What a slice-like cell reads as. -/
theorem Sit.contW (h : Sit Pr T S K fr st a w) {c : C} {v : Value} (hm : MC S (K.map CO.base) c v) {u : U} {l : List u.den} (hc : cont alg st.hp c = some ⟨u, l⟩) :
    ∃ ao cap vs, v = .slice ao l.length cap ∧ l.length ≤ cap ∧ vs.length = l.length * u.size ∧ (∀ W : World → Prop, Cls S K W → ∀ w, W w → Rd w u.size v l.length vs) ∧
      (∀ (i : Nat) (x : u.den) (j : Nat) (p : P) (v : Value), l[i]? = some x → (enc alg u x)[j]? = some p → vs[i * u.size + j]? = some v → MP S p v) := by
  unfold Ab.cont at hc
  split at hc
  · cases hc
    cases hm with
    | list u l ao cap vs hlen hr hx =>
      have := hr w h.on
      have this2 := this
      obtain ⟨_, _, e, hnc, _⟩ := this2
      cases e
      exact ⟨ao, cap, vs, rfl, hnc, hlen, fun W hW w hw => hr w (hW.on hw), hx⟩
  · rename_i k
    split at hc
    · rename_i ho
      cases hc
      rw [nth_eq] at ho
      obtain ⟨ao, cap, vs, hk, hlen, hx, hrd⟩ := h.row ho
      have hb := hm.1
      rw [base_get hk] at hb
      cases hb
      have this2 := hrd
      obtain ⟨_, _, e, hnc, _⟩ := this2
      cases e
      exact ⟨ao, cap, vs, rfl, hnc, hlen, fun W hW w hw => by obtain ⟨l, hl⟩ := hW.chunk hw hk; exact At.rd hl, hx⟩
    · cases hc
  · rename_i u0 k lo hi
    split at hc
    · rename_i u' E l' ho
      split at hc
      · rename_i hus
        have hus := Nat.eq_of_beq_eq_true hus
        cases hc
        rw [nth_eq] at ho
        obtain ⟨ao, cap, vs, hk, hlen, hx, hrd⟩ := h.row ho
        obtain ⟨ao', n', cap', hb, h0, h00, hsub⟩ := hm
        rw [base_get hk] at hb
        simp only [CO.base, Option.some.injEq, Value.slice.injEq] at hb
        obtain ⟨rfl, rfl, rfl⟩ := hb
        rw [hus] at hsub
        have hsub0 := hsub
        have hs := hsub.rd hrd
        obtain ⟨ao2, cap2, e, h1, h2, hnc, -⟩ := hsub
        have hn : (alg.cut l' lo hi).length = hi.toNat - lo.toNat := by rw [alg_cut]; simp; omega
        have hl2 := hs.len
        have hsW : ∀ W : World → Prop, Cls S K W → ∀ w, W w → Rd w u.size v (hi.toNat - lo.toNat) ((vs.drop (lo.toNat * u.size)).take ((hi.toNat - lo.toNat) * u.size)) := fun W hW w hw => by
          obtain ⟨l, hl⟩ := hW.chunk hw hk
          exact hsub0.rd (At.rd hl)
        rw [← hn] at hs e hnc hl2 hsW
        refine ⟨ao2, cap2, _, e, hnc, hl2, hsW, fun i x j p v hi' hj hv => ?_⟩
        rw [alg_cut, List.getElem?_take] at hi'
        split at hi'
        · rename_i hlt
          rw [List.getElem?_drop] at hi'
          refine hx (lo.toNat + i) x j p v hi' hj ?_
          rw [List.getElem?_take] at hv
          split at hv
          · rw [List.getElem?_drop] at hv
            rw [← hv]
            congr 1
            rw [Nat.add_mul]; omega
          · cases hv
        · cases hi'
      · cases hc
    · cases hc
  · cases hc

theorem Sit.cls (h : Sit Pr T S K fr st a w) : Cls S K fun w' => w' = w := fun _ e => by cases e; exact ⟨S, fr, Frz.le.refl S, h.at_⟩
theorem Sit.cont (h : Sit Pr T S K fr st a w) {c : C} {v : Value} (hm : MC S (K.map CO.base) c v) {u : U} {l : List u.den} (hc : cont alg st.hp c = some ⟨u, l⟩) :
    ∃ ao cap vs, v = .slice ao l.length cap ∧ l.length ≤ cap ∧ vs.length = l.length * u.size ∧ Rd w u.size v l.length vs ∧
      (∀ (i : Nat) (x : u.den) (j : Nat) (p : P) (v : Value), l[i]? = some x → (enc alg u x)[j]? = some p → vs[i * u.size + j]? = some v → MP S p v) := by
  obtain ⟨ao, cap, vs, h1, h2, h3, h4, h5⟩ := h.contW hm hc
  exact ⟨ao, cap, vs, h1, h2, h3, h4 _ h.cls w rfl, h5⟩


theorem nil_core (h : Sit Pr T S K fr st a w) {o : Oper} {c : C} {v : Value} (hm : MC S (K.map CO.base) c v) (pos : Bool) (hy : ∀ ao n cap, v = .slice ao n cap → Yields Pr a W o (.bool (if pos then ao.isNone else !ao.isNone))) :
    QSound Pr S K a W o (nilP alg st.hp c pos !pos) := by
  unfold nilP
  split
  · have hm : v = .slice none 0 0 := by assumption
    have := hy none 0 0 hm
    exact okp_sound (v := .bool pos) (by simpa using this) (.val _ rfl)
  · split
    · rename_i u l hc
      obtain ⟨ao, cap, vs, rfl, hnc, hlen, hrd, hxs⟩ := h.cont hm hc
      have hy := hy ao _ cap rfl
      intro Q hq
      obtain ⟨h1, h2⟩ := hq
      cases ao with
      | none =>
        obtain ⟨_, _, e, _, _, h0, _⟩ := hrd
        cases e
        have h0 := h0 rfl
        have hl0 : l.length = 0 := by omega
        have := (h1 (by rw [alg_ieq, alg_len, hl0]; rfl)).1
        exact okp_sound (v := .bool pos) (by simpa using hy) (.val _ rfl) Q this
      | some ad =>
        have : (okp (.val (.bool !pos))).holds Q := by
          cases hb : alg.ieq (alg.len l) 0 with
          | true => exact (h1 hb).2
          | false => exact h2 hb
        exact okp_sound (v := .bool !pos) (by cases pos <;> simpa using hy) (.val _ rfl) Q this
    · exact no_sound

theorem eqC_sound {S : Frz} {bs : List Value} {ty : Ty} {d : TypeDesc} {t : Nat} (hu : Pr.underlying t = some d) (hf : ty.fits d = true) {x y : C} {v u : Value} {b : Bool} (h : eqC alg ty x y = some b) (hx : MC S bs x v) (hy : MC S bs y u) (w : World) (D : Nat) :
    (Op.equalIn (D + 1) t v u).run Pr w = .ok b w := by
  unfold eqC at h
  split at h
  · have := fits_str hf
    subst this
    split at h
    · cases h; cases hx; cases hy
      rw [run_equalIn_string w D t _ _ hu, alg_seq, ByteArray.toList_eq, ByteArray.toList_eq, S_toList, S_toList]
    · cases h
  · rename_i k
    have := fits_int hf
    subst this
    split at h
    · split at h
      · rename_i hk
        have := kindB_eq hk
        subst this
        cases h; cases hx; cases hy
        rw [run_equalIn_int w D t _ _ _ _ hu, alg_ieq]
      · cases h
    · cases h
  · have := fits_bool hf
    subst this
    split at h
    · rename_i a b' ha hb
      cases h
      have e1 := boolC_sound ha hx
      have e2 := boolC_sound hb hy
      subst e1; subst e2
      rw [run_equalIn_bool w D t _ _ hu, alg_beq]
    · cases h
  · cases h
theorem primTy_row {ty : Ty} {d : TypeDesc} (hp : primTy ty = true) (hf : ty.fits d = true) : d.isRow = false := fits_norow hf (by cases ty <;> simp [primTy] at hp <;> rfl)
theorem part_prim {t : Nat} {d : TypeDesc} (hu : Pr.underlying t = some d) (hr : d.isRow = false) {vs : List Value} {o : Nat} {v : Value} (hv : vs[o]? = some v) (w : World) : (part t vs.toArray o).run Pr w = .ok v w := by
  have : vs.toArray[o]? = some v := by simpa using hv
  cases d <;> simp [TypeDesc.isRow] at hr <;> simp [part, isAgg, run_underlying hu, this]
theorem eqFs_sound (htab : T.fits Pr) {S : Frz} {bs : List Value} {cs ds : List C} {vs us : List Value} (hc : MCs S bs cs vs) (hd : MCs S bs ds us) (w : World) (D : Nat) : ∀ (gs : List Field) (b : Bool), (∀ f ∈ gs, f.name ≠ "_") → primFs T (gs.map fun f => (f.offset, f.type)) = true →
    eqFs alg T cs ds (gs.map fun f => (f.offset, f.type)) = some b → (Op.eqFields (D + 1) vs.toArray us.toArray gs).run Pr w = .ok b w
  | [], b, _, _, h => by simp [eqFs] at h
  | g :: gs, b, hn, hp, h => by
    simp only [List.map_cons, eqFs] at h
    simp only [List.map_cons, primFs] at hp
    split at h
    · rename_i c d e h1 h2 he
      rw [he] at hp
      simp only [Bool.and_eq_true] at hp
      rw [nth_eq] at h1 h2
      obtain ⟨v, hv, hmv⟩ := hc.get h1
      obtain ⟨u, hu, hmu⟩ := hd.get h2
      obtain ⟨td, i, hund, _, hty, -⟩ := TE.und (Tab.get htab he)
      have hr := primTy_row hp.1 hty
      have p1 := part_prim hund hr hv w
      have p2 := part_prim hund hr hu w
      have hn1 := hn g (by simp)
      split at h
      · rename_i b1 hb1
        have p3 := eqC_sound hund hty hb1 hmv hmu w D
        simp only [Op.eqFields, hn1, ne_eq, not_false_eq_true, if_true, Sem.run_bind, p1, p2, p3, Result.andThen_ok]
        split at h
        · rename_i hnil
          cases h
          have : gs = [] := by cases gs with | nil => rfl | cons _ _ => cases hnil
          subst this
          cases b <;> simp [Op.eqFields]
        · split at h
          · rename_i b2 hb2
            cases h
            have ih := eqFs_sound htab hc hd w D gs b2 (fun f hf => hn f (by simp [hf])) hp.2 hb2
            rw [alg_ban]
            cases b1
            · simp
            · simpa using ih
          · cases h
      · cases h
    · cases h
theorem eqGuardIn_prim {t : Nat} {d : TypeDesc} (hu : Pr.underlying t = some d) {ty : Ty} (hp : primTy ty = true) (hf : ty.fits d = true) (v u : Value) (w : World) (D : Nat) : (Op.eqGuardIn (D + 1) t v u).run Pr w = .ok false w := by
  cases ty <;> simp [primTy] at hp
  · have := fits_bool hf; subst this; simp [Op.eqGuardIn, run_underlying hu]
  · have := fits_int hf; subst this; simp [Op.eqGuardIn, run_underlying hu]
  · have := fits_str hf; subst this; simp [Op.eqGuardIn, run_underlying hu]
theorem eqGuardType_prim {t : Nat} {d : TypeDesc} (hu : Pr.underlying t = some d) {ty : Ty} (hp : primTy ty = true) (hf : ty.fits d = true) (D : Nat) : Pr.eqGuardType (D + 1) t = false := by
  cases ty <;> simp [primTy] at hp
  · have := fits_bool hf; subst this; simp [Program.eqGuardType, hu]
  · have := fits_int hf; subst this; simp [Program.eqGuardType, hu]
  · have := fits_str hf; subst this; simp [Program.eqGuardType, hu]
theorem primFs_all (htab : T.fits Pr) : ∀ {fs : List (Nat × Nat)}, primFs T fs = true → ∀ p ∈ fs, ∃ e d, T p.2 = some e ∧ primTy e.ty = true ∧ Pr.underlying p.2 = some d ∧ e.ty.fits d = true
  | [], _, p, hm => by simp at hm
  | (o, t) :: r, h, p, hm => by
    simp only [primFs] at h
    split at h
    · rename_i e he
      simp only [Bool.and_eq_true] at h
      rcases List.mem_cons.1 hm with rfl | hm
      · obtain ⟨d, i, hund, _, hty, -⟩ := TE.und (Tab.get htab he)
        exact ⟨e, d, he, h.1, hund, hty⟩
      · exact primFs_all htab h.2 p hm
    · cases h
theorem aggQ_sound (h : Sit Pr T S K fr st a w) {op : BinOp} {t yt : Nat} {x y : Operand} {e : TE} {cs ds : List C} (he : T t = some e) (hx : st.eval x = some (.v (.agg cs))) (hy : st.eval y = some (.v (.agg ds))) :
    QSound Pr S K a W ⟨dst, .binOp op t x y yt, ty, pos, af, gd⟩ (aggQ alg T op e.ty cs ds) := by
  obtain ⟨d, i, hu, hi, hty, -⟩ := TE.und (Tab.get h.tab he)
  obtain ⟨vs, hc, hxv⟩ := h.eval hx
  obtain ⟨us, hd, hyv⟩ := h.eval hy
  unfold aggQ
  split
  · rename_i fs hfs
    split
    · rename_i b hp hb
      rw [hfs] at hty
      obtain ⟨gs, rfl, hgs⟩ := fits_struct hty
      obtain ⟨hn, hst⟩ := TE.eqs (Tab.get h.tab he) hfs hp hu
      have hfo : Pr.fieldsOf t = gs := by simp [Program.fieldsOf, hu]
      have heq : ∀ w, (Op.equal t (.agg vs.toArray) (.agg us.toArray)).run Pr w = .ok b w := fun w => by
        show (Op.equalIn (9999 + 1) t _ _).run Pr w = _
        rw [run_equalIn_struct w 9999 t _ _ (by rw [hfo]; exact hu) hst, hfo]
        exact eqFs_sound h.tab hc hd w 9998 gs.toList b hn (by rw [hgs]; exact hp) (by rw [hgs]; exact hb)
      have hgt : ∀ n, Pr.eqGuardType (n + 1 + 1) t = false := fun n => by
        unfold Program.eqGuardType
        simp only [hu]
        rw [← Array.any_toList]
        rw [List.any_eq_false]
        intro f hf
        obtain ⟨e', d', _, hp', hu', hf'⟩ := primFs_all h.tab hp (f.offset, f.type) (by rw [← hgs]; exact List.mem_map_of_mem hf)
        simp [eqGuardType_prim hu' hp' hf']
      have hgd : Pr.eqGuardType Pr.depth t = false := by
        obtain ⟨n, hn⟩ : ∃ n, Pr.depth = n + 1 + 1 := by unfold Program.depth; exact ⟨_, rfl⟩
        rw [hn]; exact hgt n
      have hg : ∀ w, (eqGuard op t x y (.agg vs.toArray) (.agg us.toArray)).run Pr w = .ok () w := fun w => run_eqGuard_agg w op t x y _ _ hgd
      split
      · exact okp_sound (v := .bool b) (fun w _ => by simp [execOp, hxv, hyv, hg, binOp, heq]) (.bool _)
      · exact okp_sound (v := .bool (alg.bnot b)) (fun w _ => by simp [execOp, hxv, hyv, hg, binOp, heq, alg_bnot]) (.bool _)
      · exact no_sound
    · exact no_sound
  · exact no_sound

theorem fits_iface {d : TypeDesc} (h : Ty.iface.fits d = true) : ∃ ms, d = .interface ms := by cases d <;> simp [Ty.fits] at h; exact ⟨_, rfl⟩
theorem ifc_val {S : Frz} {bs : List Value} {T0 : Nat} {ag : Bool} {ps : List P} {v : Value} (h : MC S bs (.ifc T0 ag ps) v) : ∃ u, v = .iface T0 u := by
  cases ag with
  | false =>
    cases ps with
    | nil => exact h.elim
    | cons p ps =>
      cases ps with
      | nil => obtain ⟨x, _, rfl⟩ := h; exact ⟨_, rfl⟩
      | cons q qs => exact h.elim
  | true => obtain ⟨vs, _, rfl⟩ := h; exact ⟨_, rfl⟩
theorem run_equal_ifaceNil {t : Nat} {ms} (ht : Pr.underlying t = some (.interface ms)) (T0 : Nat) (u : Value) : (Op.equal t (.iface T0 u) .nilIface).run Pr w = .ok false w := by
  unfold Op.equal Op.maxDepth Op.equalIn
  simp [run_underlying ht]
theorem run_equal_nilNil {t : Nat} {ms} (ht : Pr.underlying t = some (.interface ms)) : (Op.equal t .nilIface .nilIface).run Pr w = .ok true w := by
  unfold Op.equal Op.maxDepth Op.equalIn
  simp [run_underlying ht]
theorem assert_sound (h : Sit Pr T S K fr st a w) {x : Operand} {xt t : Nat} {ok : Bool} : QSound Pr S K a W ⟨dst, .typeAssert x xt t ok, ty, pos, af, gd⟩ (qop alg T st (.typeAssert x xt t ok)) := by
  cases ok with
  | false => exact no_sound
  | true =>
  simp only [qop]
  split
  · rename_i e c he hc
    have hm := h.one hc
    obtain ⟨d, i, hu, hi, hty, -⟩ := TE.und (Tab.get h.tab he)
    generalize hx : a.eval x = xv at hm
    unfold assertQ
    split
    · rename_i k hety
      rw [hety] at hty
      have := fits_int hty
      subst this
      split
      · rename_i t' p
        split
        · rename_i hb
          obtain rfl := Nat.eq_of_beq_eq_true hb
          obtain ⟨v, h1, rfl⟩ := hm
          exact fun Q hq => ⟨.tuple #[v, .bool true], .tup [.one (.p p), .one (.p (.val (.bool true)))], by simp [Yields, execOp, hx, Instr.typeAssert, run_underlying hu], ⟨[v, .bool true], ⟨h1, .val _ rfl, trivial⟩, rfl⟩, hq⟩
        · exact no_sound
      · exact no_sound
    · rename_i fs hety
      rw [hety] at hty
      obtain ⟨gs, rfl, _⟩ := fits_struct hty
      split
      · rename_i t' ps
        split
        · rename_i hb
          obtain rfl := Nat.eq_of_beq_eq_true hb
          obtain ⟨vs, h1, rfl⟩ := hm
          exact fun Q hq => ⟨.tuple #[.agg vs.toArray, .bool true], .tup [.agg (ps.map C.p), .one (.p (.val (.bool true)))], by simp [Yields, execOp, hx, Instr.typeAssert, run_underlying hu], ⟨[.agg vs.toArray, .bool true], ⟨⟨vs, h1.mcs, rfl⟩, .val _ rfl, trivial⟩, rfl⟩, hq⟩
        · exact no_sound
      · exact no_sound
    · exact no_sound
  · exact no_sound
theorem binOp_sound (h : Sit Pr T S K fr st a w) {op : BinOp} {t yt : Nat} {x y : Operand} : QSound Pr S K a W ⟨dst, .binOp op t x y yt, ty, pos, af, gd⟩ (qop alg T st (.binOp op t x y yt)) := by
  simp only [qop]
  split
  · rename_i hk
    have hy0 : a.eval y = .nilIface := by
      unfold isNilK at hk
      split at hk
      · rfl
      · cases hk
    have hyc : y = .const .nilIface := by
      unfold isNilK at hk
      split at hk
      · rfl
      · cases hk
    split
    · rename_i e c he hc
      have hm := h.one hc
      obtain ⟨d, i, hu, hi, hty, -⟩ := TE.und (Tab.get h.tab he)
      generalize hx : a.eval x = xv at hm
      subst hyc
      unfold nilIfQ
      split
      · rename_i T0 ag ps hety
        rw [hety] at hty
        obtain ⟨ms, rfl⟩ := fits_iface hty
        obtain ⟨u, hv⟩ := ifc_val hm
        exact okp_sound (v := .bool false) (by simp [Yields, execOp, hx, hv, hy0, eqGuard, binOp, run_equal_ifaceNil hu]) (.val _ rfl)
      · rename_i T0 ag ps hety
        rw [hety] at hty
        obtain ⟨ms, rfl⟩ := fits_iface hty
        obtain ⟨u, hv⟩ := ifc_val hm
        exact okp_sound (v := .bool true) (by simp [Yields, execOp, hx, hv, hy0, eqGuard, binOp, run_equal_ifaceNil hu]) (.val _ rfl)
      · rename_i hety
        rw [hety] at hty
        obtain ⟨ms, rfl⟩ := fits_iface hty
        cases hm
        exact okp_sound (v := .bool true) (by simp [Yields, execOp, hx, hy0, eqGuard, binOp, run_equal_nilNil hu]) (.val _ rfl)
      · rename_i hety
        rw [hety] at hty
        obtain ⟨ms, rfl⟩ := fits_iface hty
        cases hm
        exact okp_sound (v := .bool false) (by simp [Yields, execOp, hx, hy0, eqGuard, binOp, run_equal_nilNil hu]) (.val _ rfl)
      · exact no_sound
    · exact no_sound
  split
  · rename_i e c he hc hc'
    have hm := h.one hc
    have hm' := h.one hc'
    obtain ⟨d, i, hu, hi, hty, -⟩ := TE.und (Tab.get h.tab he)
    generalize hx : a.eval x = xv at hm
    generalize hy : a.eval y = yv at hm'
    cases hm'
    unfold nilQ
    split
    · rename_i el hety
      rw [hety] at hty
      have := fits_slice hty
      subst this
      exact nil_core (o := ⟨dst, .binOp .eql t x y yt, ty, pos, af, gd⟩) h hm true fun ao n cap e => by simp [Yields, execOp, hx, hy, e, eqGuard, binOp, run_equal_slice hu]
    · rename_i el hety
      rw [hety] at hty
      have := fits_slice hty
      subst this
      exact nil_core (o := ⟨dst, .binOp .neq t x y yt, ty, pos, af, gd⟩) h hm false fun ao n cap e => by simp [Yields, execOp, hx, hy, e, eqGuard, binOp, run_equal_slice hu]
    · exact no_sound
  · rename_i e c c' hno he hc hc'
    have hm := h.one hc
    have hm' := h.one hc'
    obtain ⟨d, i, hu, hi, hty, -⟩ := TE.und (Tab.get h.tab he)
    generalize hx : a.eval x = xv at hm
    generalize hy : a.eval y = yv at hm'
    unfold binQ
    split
    · cases hm; cases hm'
      split
      · exact bin_shift hx hy
      · rename_i hs
        split
        · rename_i hk
          have := kindB_eq hk
          subst this
          exact bin_int hx hy hs
        · exact no_sound
    · cases hm; cases hm'; exact bin_str hx hy
    · obtain ⟨b, _, rfl⟩ := hm
      cases hm'
      split
      · rename_i hety
        rw [hety] at hty
        obtain ⟨e', rfl⟩ := fits_ptr hty
        split
        · exact okp_sound (v := .bool false) (by simp [Yields, execOp, hx, hy, eqGuard, binOp, run_equal_nilptr hu]) (.val _ rfl)
        · exact okp_sound (v := .bool true) (by simp [Yields, execOp, hx, hy, eqGuard, binOp, run_equal_nilptr hu]) (.val _ rfl)
        · exact no_sound
      · exact no_sound
    · split
      · rename_i b b' hety hb hb'
        rw [hety] at hty
        have := fits_bool hty
        subst this
        have e1 := boolC_sound hb hm
        have e2 := boolC_sound hb' hm'
        subst e1; subst e2
        split
        · exact okp_sound (v := .bool (alg.beq b b')) (by simp [Yields, execOp, hx, hy, eqGuard, binOp, run_equal_bool hu, alg_beq]) (.bool _)
        · exact okp_sound (v := .bool (alg.bnot (alg.beq b b'))) (by simp [Yields, execOp, hx, hy, eqGuard, binOp, run_equal_bool hu, alg_beq, alg_bnot]) (.bool _)
        · exact no_sound
      · exact no_sound
  · rename_i e he _ _
    split
    · rename_i cs ds hx hy; exact aggQ_sound h he hx hy
    · exact no_sound
  · exact no_sound

theorem unOp_sound (h : Sit Pr T S K fr st a w) {op : UnOp} {t : Nat} {x : Operand} : QSound Pr S K a W ⟨dst, .unOp op t x, ty, pos, af, gd⟩ (qop alg T st (.unOp op t x)) := by
  simp only [qop]
  split
  · rename_i b hc
    have hm := h.one hc
    generalize hx : a.eval x = xv at hm
    cases hm
    exact okp_sound (v := .bool (alg.bnot b)) (by simp [Yields, execOp, hx, Op.unary, alg_bnot]) (.bool _)
  · rename_i hc
    have hm := h.one hc
    generalize hx : a.eval x = xv at hm
    cases hm
    exact okp_sound (v := .bool false) (by simp [Yields, execOp, hx, Op.unary]) (.val _ rfl)
  · rename_i hc
    have hm := h.one hc
    generalize hx : a.eval x = xv at hm
    cases hm
    exact okp_sound (v := .bool true) (by simp [Yields, execOp, hx, Op.unary]) (.val _ rfl)
  · rename_i k n hc
    have hm := h.one hc
    generalize hx : a.eval x = xv at hm
    cases hm
    exact arith_sound (by simp [Yields, execOp, hx, Op.unary, Op.intArith, alg_sub])
  · exact no_sound

theorem cells_bytes {S : Frz} {l : Str} {vs : List Value} (hlen : vs.length = l.length * U.byte.size)
    (hx : ∀ (i : Nat) (x : U.byte.den) (j : Nat) (p : P) (v : Value), l[i]? = some x → (enc alg .byte x)[j]? = some p → vs[i * U.byte.size + j]? = some v → MP S p v) : vs = bvs l := by
  apply List.ext_getElem?
  intro i
  rw [bvs_getElem?]
  have hl : vs.length = l.length := by simpa [U.size] using hlen
  rcases Nat.lt_or_ge i l.length with hi | hi
  · have h1 : l[i]? = some l[i] := List.getElem?_eq_getElem hi
    have h2 : vs[i]? = some vs[i] := List.getElem?_eq_getElem (by omega)
    have := hx i l[i] 0 (.int .u8 (alg.b2i l[i])) vs[i] h1 rfl (by simpa [U.size] using h2)
    rw [h1, h2]
    generalize vs[i] = v at this
    cases this
    rfl
  · rw [List.getElem?_eq_none (by omega), List.getElem?_eq_none (by omega)]; rfl

theorem convert_sound (h : Sit Pr T S K fr st a w) (hW : Cls S K W) {s d : Nat} {x : Operand} : QSound Pr S K a W ⟨dst, .convert s d x, ty, pos, af, gd⟩ (qop alg T st (.convert s d x)) := by
  simp only [qop]
  split
  · rename_i es ed c hes hed hc
    have hm := h.one hc
    obtain ⟨ds, is, hus, -, htys, -⟩ := TE.und (Tab.get h.tab hes)
    obtain ⟨dd, id, hud, -, htyd, -⟩ := TE.und (Tab.get h.tab hed)
    generalize hx : a.eval x = xv at hm
    unfold convQ
    split
    · rename_i k k' n hk
      rw [hk] at htyd
      have := fits_int htyd
      subst this
      cases hm
      refine okp_sound (v := .int k (k.wrap n)) ?_ (.int _ _)
      cases ds <;> simp [Yields, execOp, hx, convert, run_underlying hus, run_underlying hud, Conv.intToInt]
    · rename_i l hk
      rw [hk] at htyd
      have := fits_str htyd
      subst this
      cases hm with
      | str _ hl =>
        refine okp_sound (v := .string (Sep.S l)) ?_ (.str _ hl)
        cases ds <;> simp [Yields, execOp, hx, convert, run_underlying hus, run_underlying hud]
    · rename_i hk _
      rw [hk] at htyd
      have := fits_str htyd
      subst this
      split
      · rename_i el hel
        rw [hel] at htys
        have := fits_slice htys
        subst this
        split
        · rename_i b1 b2 b3 b4 hte
          obtain ⟨de, ie, hue, -, htye, -⟩ := TE.und (Tab.get h.tab hte)
          have := fits_int htye
          subst this
          split
          · rename_i l hcont
            obtain ⟨ao, cap, vs, rfl, hnc, hlen, hrdW, hxs⟩ := h.contW hm hcont
            have hrd := hrdW _ h.cls w rfl
            have := cells_bytes hlen hxs
            subst this
            have hle := hrd.le
            refine okp_sound (v := .string (Sep.S l)) (fun w hw => ex_string hus hue hud hx (hrdW _ hW w hw)) (.str _ ?_)
            obtain ⟨_, _, e, h1, h2, _⟩ := hrd
            cases e; exact Nat.le_trans h1 h2
          · split
            · cases hm
              have hrd : ∀ w, Rd w 1 (.slice none 0 0) 0 (bvs []) := fun w => ⟨none, 0, rfl, Nat.le_refl _, Nat.zero_le _, fun _ => rfl, rfl, fun j u h => by simp [bvs] at h⟩
              exact okp_sound (v := .string (Sep.S [])) (fun w _ => ex_string hus hue hud hx (hrd w)) (.str _ (Nat.zero_le _))
            · exact no_sound
        · exact no_sound
      · exact no_sound
    · exact no_sound
  · exact no_sound
end
end Go.Ab
