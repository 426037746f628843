/- An abstract machine for the walks (part 4): the reading operations are sound. -/
import Derived.Test.YtjapkdcomcgamaaGreatDoorAbC
set_option linter.all false
namespace Go.Ab
open Go Go.Sep
variable [Facts]

structure Sit (Pr : Program) (T : Tab) (S : Frz) (K : List CO) (fr : List Chunk) (st : St) (a : Act) (w : World) : Prop where
  tab : T.fits Pr
  hr : HR S (K.map CO.base) st.hp K
  at_ : At w (frzC S :: (CO.chunkL K ++ fr))
  env : Env S (K.map CO.base) st a

theorem alg_b2i (c : UInt8) : alg.b2i c = (c.toNat : Int) := rfl
theorem alg_i2b (n : Int) : alg.i2b n = UInt8.ofNat n.toNat := rfl
theorem alg_add (x y : Int) : alg.add x y = x + y := rfl
theorem alg_sub (x y : Int) : alg.sub x y = x - y := rfl
theorem alg_mul (x y : Int) : alg.mul x y = x * y := rfl
theorem alg_quo (x y : Int) : alg.quo x y = x.tdiv y := rfl
theorem alg_rem (x y : Int) : alg.rem x y = x.tmod y := rfl
theorem alg_wrap (k : IntKind) (n : Int) : alg.wrap k n = k.wrap n := rfl
theorem alg_imin (x y : Int) : alg.imin x y = if x ≤ y then x else y := rfl
theorem alg_imax (x y : Int) : alg.imax x y = if x ≤ y then y else x := rfl
theorem alg_ilt (x y : Int) : alg.ilt x y = decide (x < y) := rfl
theorem alg_ile (x y : Int) : alg.ile x y = decide (x ≤ y) := rfl
theorem alg_ieq (x y : Int) : alg.ieq x y = (x == y) := rfl
theorem alg_bnot (b : Bool) : alg.bnot b = !b := rfl
theorem alg_beq (a b : Bool) : alg.beq a b = (a == b) := rfl
theorem alg_ban (a b : Bool) : alg.ban a b = (a && b) := rfl
theorem alg_seq (a b : Str) : alg.seq a b = (a == b) := rfl
theorem alg_len {α : Type} (l : List α) : alg.len l = (l.length : Int) := rfl
theorem alg_app {α : Type} (x y : List α) : alg.app x y = x ++ y := rfl
theorem alg_cut {α : Type} (l : List α) (a b : Int) : alg.cut l a b = (l.drop a.toNat).take (b.toNat - a.toNat) := rfl
theorem alg_get {α : Type} (l : List α) (d : α) (i : Int) : alg.get l d i = l.getD i.toNat d := rfl
theorem alg_set {α : Type} (l : List α) (i : Int) (x : α) : alg.set l i x = l.set i.toNat x := rfl
theorem alg_rep {α : Type} (n : Int) (x : α) : alg.rep n x = List.replicate n.toNat x := rfl
theorem alg_inr (k : IntKind) (n : Int) : alg.inr k n = (k.min ≤ n ∧ n ≤ k.max) := rfl
theorem alg_inb (i n : Int) : alg.inb i n = (0 ≤ i ∧ i < n) := rfl
theorem alg_cutb (l h n : Int) : alg.cutb l h n = (0 ≤ l ∧ l ≤ h ∧ h ≤ n) := rfl
theorem alg_same {α : Type} (x y : α) : alg.same x y = (x = y) := rfl
theorem alg_few (n m : Int) : alg.few n m = (n ≤ m) := rfl
theorem alg_nne (n : Int) : alg.nne n = (n ≠ 0) := rfl
theorem alg_nng (n : Int) : alg.nng n = (0 ≤ n) := rfl

section
variable {Pr : Program} {T : Tab} {S : Frz} {K : List CO} {fr : List Chunk} {st : St} {a : Act} {w : World} {W : World → Prop}

/-- The operation reads, in every world of the class: this value, the world as it was. -/
def Yields (Pr : Program) (a : Act) (W : World → Prop) (o : Oper) (v : Value) : Prop := ∀ w, W w → (execOp a.eval o).run Pr w = .ok (.value v) w
/-- Worlds that hold this memory. -/
def Cls (S : Frz) (K : List CO) (W : World → Prop) : Prop := ∀ w, W w → ∃ S' fr, S.le S' ∧ At w (frzC S' :: (CO.chunkL K ++ fr))

theorem Tab.get (h : T.fits Pr) {t : Nat} {e : TE} (he : T t = some e) : e.fits Pr T t = true := h t e he
theorem TE.und {t : Nat} {e : TE} (h : e.fits Pr T t = true) : ∃ d i, Pr.underlying t = some d ∧ Pr.info? t = some i ∧ e.ty.fits d = true ∧ i.size = e.size ∧ i.bytes = e.bytes := by
  unfold TE.fits at h
  split at h
  · rename_i d i h1 h2
    simp only [Bool.and_eq_true, beq_iff_eq] at h
    exact ⟨d, i, h1, h2, h.1.1.1.1.2, h.1.1.1.2, h.1.1.2⟩
  · cases h
theorem TE.eqs {t : Nat} {e : TE} (h : e.fits Pr T t = true) {fs : List (Nat × Nat)} (hty : e.ty = .struct fs) (hp : primFs T fs = true) {gs : Array Field} (hu : Pr.underlying t = some (.struct gs)) : (∀ f ∈ gs.toList, f.name ≠ "_") ∧ Pr.stoodInHeld t = false := by
  unfold TE.fits at h
  split at h
  · rename_i d i h1 h2
    simp only [Bool.and_eq_true, beq_iff_eq] at h
    have h3 := h.1.1.1.1.1
    rw [hu] at h1
    cases h1
    rw [hty] at h3
    simp only [eqFits, hp, Bool.not_true, Bool.false_or, Bool.and_eq_true, List.all_eq_true, Bool.not_eq_true'] at h3
    exact ⟨fun f hf => by simpa using h3.1 f hf, h3.2⟩
  · cases h
theorem TE.size' {t : Nat} {e : TE} (h : e.fits Pr T t = true) : (Pr.info? t).map (·.size) = some e.size := by
  obtain ⟨d, i, _, h2, _, h4, _⟩ := TE.und h
  rw [h2, ← h4]; rfl
theorem TE.zero' {t : Nat} {e : TE} (h : e.fits Pr T t = true) {z : List P} (hz : e.zero = some z) : ∃ i v, Pr.info? t = some i ∧ i.zero = some v ∧ zeroFits v.cells.toList z = true ∧ z.length = e.size := by
  unfold TE.fits at h
  split at h
  · rename_i d i h1 h2
    simp only [Bool.and_eq_true, beq_iff_eq, hz] at h
    have h3 := h.1.2
    split at h3
    · rename_i v hv; simp only [Bool.and_eq_true, beq_iff_eq] at h3; exact ⟨i, v, h2, hv, h3.1, h3.2⟩
    · cases h3
  · cases h
theorem TE.elem {t : Nat} {e : TE} (h : e.fits Pr T t = true) {u : U} (hu : e.u = some u) : ∃ el ee, e.ty = .slice el ∧ T el = some ee ∧ ee.size = u.size ∧ 0 < u.size := by
  unfold TE.fits at h
  split at h
  · rename_i d i h1 h2
    simp only [Bool.and_eq_true, hu] at h
    have h3 := h.2
    split at h3
    · rename_i el hel
      split at h3
      · rename_i ee hee; simp only [Bool.and_eq_true, beq_iff_eq, decide_eq_true_eq] at h3; exact ⟨el, ee, hel, hee, h3.1, h3.2⟩
      · cases h3
    · cases h3
  · cases h
theorem fits_slice {e : Nat} {d : TypeDesc} (h : (Ty.slice e).fits d = true) : d = .slice e := by
  cases d <;> simp [Ty.fits] at h
  rw [h]
theorem fits_str {d : TypeDesc} (h : Ty.str.fits d = true) : d = .string := by cases d <;> simp [Ty.fits] at h; rfl
theorem fits_bool {d : TypeDesc} (h : Ty.bool.fits d = true) : d = .bool := by cases d <;> simp [Ty.fits] at h; rfl
theorem fits_ptr {d : TypeDesc} (h : Ty.ptr.fits d = true) : ∃ e, d = .pointer e := by cases d <;> simp [Ty.fits] at h; exact ⟨_, rfl⟩
theorem fits_int {k : IntKind} {d : TypeDesc} (h : (Ty.int k).fits d = true) : d = .int k := by
  cases d <;> simp [Ty.fits] at h
  rw [kindB_eq h]
theorem fits_struct {fs : List (Nat × Nat)} {d : TypeDesc} (h : (Ty.struct fs).fits d = true) : ∃ gs, d = .struct gs ∧ gs.toList.map (fun f => (f.offset, f.type)) = fs := by
  cases d <;> simp [Ty.fits] at h
  exact ⟨_, rfl, h⟩
theorem fits_array {n e : Nat} {d : TypeDesc} (h : (Ty.array n e).fits d = true) : d = .array n e := by
  cases d <;> simp [Ty.fits] at h
  rw [h.1, h.2]
theorem fits_row {ty : Ty} {d : TypeDesc} (h : ty.fits d = true) (hr : isRowTy ty = true) : d.isRow = true := by
  cases ty <;> simp [isRowTy] at hr <;> cases d <;> simp [Ty.fits] at h <;> rfl

theorem ofConst_sound {v : Value} {c : C} (h : ofConst v = some c) (bs : List Value) : MC S bs c v := by
  unfold ofConst at h
  split at h <;> try (simp at h; done)
  · cases h; exact .int _ _
  · cases h; exact .val _ rfl
  · cases h; exact .val _ rfl
  · rename_i s
    split at h
    · rename_i hs
      cases h
      have h1 : s.data.toList.length ≤ 100000 := by simpa using hs
      have := MP.str (S := S) s.data.toList (by unfold maxLen; omega)
      rw [S_of] at this
      exact this
    · cases h
  · cases h; rfl
  · cases h; exact .val _ rfl
  · cases h; exact .val _ rfl
  · cases h; exact .val _ rfl

theorem Sit.eval (h : Sit Pr T S K fr st a w) {x : Operand} {d : D} (hx : st.eval x = some d) : MD S (K.map CO.base) d (a.eval x) := by
  cases x with
  | tmp t => exact h.env.slots t d hx
  | const v =>
    simp only [St.eval] at hx
    split at hx
    · rename_i c hc; cases hx; exact ofConst_sound hc _
    · cases hx
  | func f => simp only [St.eval, Option.some.injEq] at hx; subst hx; exact ⟨[], trivial, rfl⟩
  | global g => cases hx
theorem Sit.one (h : Sit Pr T S K fr st a w) {x : Operand} {c : C} (hx : oneC (st.eval x) = some c) : MC S (K.map CO.base) c (a.eval x) := by
  unfold oneC at hx
  split at hx
  · rename_i c' hc; cases hx; exact h.eval hc
  · cases hx
theorem Sit.int (h : Sit Pr T S K fr st a w) {x : Operand} {n : Int} (hx : intC (st.eval x) = some n) : ∃ k, a.eval x = .int k n := by
  unfold intC at hx
  split at hx
  · rename_i k n' hc; cases hx; have := h.eval hc; generalize a.eval x = v at this; cases this; exact ⟨_, rfl⟩
  · cases hx

theorem chunkL_get : ∀ {K : List CO} {k : Nat} {c : CO}, K[k]? = some c → (CO.chunkL K)[k]? = some c.chunk := by
  intro K k c h; rw [CO.chunkL_eq]; simp [h]
theorem Sit.chunk (h : Sit Pr T S K fr st a w) {k : Nat} {c : CO} (hc : K[k]? = some c) : ∃ l, At w (c.chunk :: l) := by
  have h1 := h.at_.tail
  have hlt := (List.getElem?_eq_some_iff.1 (chunkL_get hc)).1
  exact ⟨_, h1.pull k c.chunk (by rw [List.getElem?_append_left hlt]; exact chunkL_get hc)⟩
theorem Cls.chunk (h : Cls S K W) (hw : W w) {k : Nat} {c : CO} (hc : K[k]? = some c) : ∃ l, At w (c.chunk :: l) := by
  obtain ⟨S', fr, _, h⟩ := h w hw
  have h1 := h.tail
  have hlt := (List.getElem?_eq_some_iff.1 (chunkL_get hc)).1
  exact ⟨_, h1.pull k c.chunk (by rw [List.getElem?_append_left hlt]; exact chunkL_get hc)⟩
theorem Cls.on (h : Cls S K W) (hw : W w) : S.on w := by
  obtain ⟨S', fr, hle, h⟩ := h w hw
  exact (At.frz h).mono hle
theorem Sit.on (h : Sit Pr T S K fr st a w) : S.on w := At.frz h.at_

/-- An object. -/
theorem Sit.obj (h : Sit Pr T S K fr st a w) {k ty : Nat} {cs : List C} (ho : st.hp[k]? = some (.obj ty cs)) : ∃ b vs l, K[k]? = some (.obj b ty vs) ∧ MCs S (K.map CO.base) cs vs ∧ At w (objC b ty vs :: l) := by
  obtain ⟨c, hc, hr⟩ := h.hr.get ho
  cases hr with
  | obj hm => obtain ⟨l, hl⟩ := h.chunk hc; exact ⟨_, _, l, hc, hm, hl⟩
/-- A row. -/
theorem Sit.row (h : Sit Pr T S K fr st a w) {k E : Nat} {u : U} {l : List u.den} (ho : st.hp[k]? = some (.row u E l)) : ∃ ao cap vs, K[k]? = some (.row E u.size ao l.length cap vs) ∧ vs.length = l.length * u.size ∧
    (∀ (i : Nat) (x : u.den) (j : Nat) (p : P) (v : Value), l[i]? = some x → (enc alg u x)[j]? = some p → vs[i * u.size + j]? = some v → MP S p v) ∧ Rd w u.size (.slice ao l.length cap) l.length vs := by
  obtain ⟨c, hc, hr⟩ := h.hr.get ho
  cases hr with
  | row hlen hx => obtain ⟨l', hl⟩ := h.chunk hc; exact ⟨_, _, _, hc, hlen, hx, At.rd hl⟩
theorem base_get {k : Nat} {c : CO} (h : K[k]? = some c) : (K.map CO.base)[k]? = some c.base := by simp [h]

/-- The cells of element i. -/
theorem elem_cells {S : Frz} {u : U} {l : List u.den} {vs : List Value} (hlen : vs.length = l.length * u.size)
    (hx : ∀ (i : Nat) (x : u.den) (j : Nat) (p : P) (v : Value), l[i]? = some x → (enc alg u x)[j]? = some p → vs[i * u.size + j]? = some v → MP S p v) {i : Int} (hi : alg.inb i (alg.len l)) :
    MPs S (enc alg u (alg.get l (dflt u) i)) ((vs.drop (i.toNat * u.size)).take u.size) ∧ ((vs.drop (i.toNat * u.size)).take u.size).length = u.size := by
  rw [alg_inb, alg_len] at hi
  rw [alg_get]
  have h1 : i.toNat < l.length := by omega
  have h2 : i.toNat * u.size + u.size ≤ vs.length := by
    rw [hlen, ← Nat.succ_mul]; exact Nat.mul_le_mul_right _ h1
  have h3 : ((vs.drop (i.toNat * u.size)).take u.size).length = u.size := by simp; omega
  refine ⟨MPs.of_get (by rw [h3]; exact (enc_length alg u _).symm) fun j p v hp hv => ?_, h3⟩
  rw [List.getElem?_take] at hv
  split at hv
  · rw [List.getElem?_drop] at hv
    refine hx i.toNat _ j p v (List.getElem?_eq_getElem h1) ?_ hv
    simpa [h1] using hp
  · cases hv

theorem fetch_sound {e : TE} {cs : List C} {vs : List Value} {Q : D → Prop} (h : (fetch e cs).holds Q) (hm : MCs S (K.map CO.base) cs vs) :
    (isRowTy e.ty = true ∧ cs.length = e.size ∧ Q (.v (.agg cs))) ∨ (isRowTy e.ty = false ∧ ∃ c v, cs = [c] ∧ vs = [v] ∧ MC S (K.map CO.base) c v ∧ Q (.v (.one c))) := by
  unfold fetch at h
  split at h
  · rename_i hr
    split at h
    · rename_i hl; exact .inl ⟨hr, Nat.eq_of_beq_eq_true hl, h⟩
    · exact h.elim
  · rename_i hr
    split at h
    · rename_i c
      cases vs with
      | nil => exact hm.elim
      | cons v vs => cases vs with
        | nil => exact .inr ⟨hr, c, v, rfl, rfl, hm.1, h⟩
        | cons _ _ => exact hm.2.elim
    · exact h.elim

theorem fits_norow {ty : Ty} {d : TypeDesc} (h : ty.fits d = true) (hr : isRowTy ty = false) : d.isRow = false := by
  cases ty <;> simp [isRowTy] at hr <;> cases d <;> first | rfl | (simp [Ty.fits] at h; done) | (simpa [Ty.fits] using h)

/-- What an operation of one kind owes. -/
def QSound (Pr : Program) (S : Frz) (K : List CO) (a : Act) (W : World → Prop) (o : Oper) (r : QR) : Prop :=
  ∀ Q : D → Prop, r.holds Q → ∃ v d, Yields Pr a W o v ∧ MD S (K.map CO.base) d v ∧ Q d

variable {dst : Option Tmp} {ty : TypeId} {pos : String} {af : Array Edge} {gd : Option (Nat × Bool)}

theorem load_sound (h : Sit Pr T S K fr st a w) (hW : Cls S K W) {t : Nat} {x : Operand} : QSound Pr S K a W ⟨dst, .load t x, ty, pos, af, gd⟩ (qop alg T st (.load t x)) := by
  intro Q hq
  simp only [qop] at hq
  split at hq
  · rename_i e c he hc
    have hf := Tab.get h.tab he
    obtain ⟨d, i, hu, hi, hty, hsz, -⟩ := TE.und hf
    have hc' := h.one hc
    generalize hx : a.eval x = pv at hc'
    -- what is fetched
    have go : ∀ {cs : List C} {vs : List Value} {p : Addr}, p.spot = none → pv = .pointer (some p) → (fetch e cs).holds Q → MCs S (K.map CO.base) cs vs → (∀ w, W w → ∀ j v, vs[j]? = some v → w.cell? ⟨p.block, p.off + j, none⟩ = some v) →
        ∃ v d, Yields Pr a W ⟨dst, .load t x, ty, pos, af, gd⟩ v ∧ MD S (K.map CO.base) d v ∧ Q d := by
      intro cs vs p hsp hp hq hm hcell
      obtain ⟨b, o, s⟩ := p
      cases hsp
      rcases fetch_sound hq hm with ⟨hr, hl, hQ⟩ | ⟨hr, c1, v1, rfl, rfl, hm1, hQ⟩
      · refine ⟨.agg vs.toArray, .v (.agg cs), fun w hw => ex_loadN hu (fits_row hty hr) (cs := vs) ?_ (hx.trans hp) (hcell w hw), ⟨vs, hm, rfl⟩, hQ⟩
        rw [TE.size' hf, hm.length, hl]
      · refine ⟨v1, .v (.one c1), fun w hw => ex_load hu (fits_norow hty hr) (hx.trans hp) (hcell w hw 0 v1 rfl), hm1, hQ⟩
    cases c with
    | ptr k off =>
      obtain ⟨b, hb, rfl⟩ := hc'
      simp only [loadQ] at hq
      split at hq
      · rename_i T' cs ho
        rw [nth_eq] at ho
        obtain ⟨b', vs, l, hk, hm, hat⟩ := h.obj ho
        have : b' = b := by have := base_get hk; rw [this] at hb; simp [CO.base] at hb; exact hb
        subst this
        refine go rfl rfl hq (hm.slice off e.size) fun w' hw' j v hj => ?_
        obtain ⟨l', hat'⟩ := hW.chunk hw' hk
        have := At.cell (show At w' (objC b' T' vs :: l') from hat') (off + j)
        rw [List.getElem?_take] at hj
        split at hj
        · rw [List.getElem?_drop] at hj; rw [this, hj]
        · cases hj
      · exact hq.elim
    | ept u k i off =>
      obtain ⟨ao, n, cap, hb, hi0, rfl⟩ := hc'
      simp only [loadQ] at hq
      split at hq
      · rename_i u' E l ho
        split at hq
        · rename_i hus
          have hus := Nat.eq_of_beq_eq_true hus
          obtain ⟨hin, hq⟩ := hq
          rw [nth_eq] at ho
          obtain ⟨ao', cap', vs, hk, hlen, hx', hrd⟩ := h.row ho
          have hbk := base_get hk
          rw [hbk] at hb
          simp only [CO.base, Option.some.injEq, Value.slice.injEq] at hb
          obtain ⟨rfl, rfl, rfl⟩ := hb
          obtain ⟨hm, hl2⟩ := elem_cells hlen hx' hin
          refine go rfl rfl hq ((hm.mcs (bs := K.map CO.base)).slice off e.size) fun w' hw' j v hj => ?_
          obtain ⟨l', hat'⟩ := hW.chunk hw' hk
          have hrd := At.rd (show At w' (rowC E u'.size (.slice ao' l.length cap') l.length vs :: l') from hat')
          rw [List.getElem?_take] at hj
          split at hj
          · rw [List.getElem?_drop, List.getElem?_take] at hj
            split at hj
            · rw [List.getElem?_drop] at hj
              obtain ⟨hjl, hje⟩ := List.getElem?_eq_some_iff.1 hj
              have := hrd.cell hjl
              rw [hje] at this
              simpa [adr, hus, Nat.add_assoc] using this
            · cases hj
          · cases hj
        · exact hq.elim
      · exact hq.elim
    | fpt u l i off =>
      obtain ⟨ao, cap, vs, hlen, hrs, hx', hi0, rfl⟩ := hc'
      simp only [loadQ] at hq
      obtain ⟨hin, hq⟩ := hq
      obtain ⟨hm, hl2⟩ := elem_cells hlen hx' hin
      refine go rfl rfl hq ((hm.mcs (bs := K.map CO.base)).slice off e.size) fun w' hw' j v hj => ?_
      have hrd := hrs w' (hW.on hw')
      rw [List.getElem?_take] at hj
      split at hj
      · rw [List.getElem?_drop, List.getElem?_take] at hj
        split at hj
        · rw [List.getElem?_drop] at hj
          obtain ⟨hjl, hje⟩ := List.getElem?_eq_some_iff.1 hj
          have := hrd.cell hjl
          rw [hje] at this
          simpa [adr, Nat.add_assoc] using this
        · cases hj
      · cases hj
    | p x => exact hq.elim
    | row k => exact hq.elim
    | sub u k lo hi => exact hq.elim
    | nilS => exact hq.elim
    | fn f caps => exact hq.elim
    | ifc T agg cs => exact hq.elim
    | any => exact hq.elim
  · exact hq.elim
end
end Go.Ab
