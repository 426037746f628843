/- An abstract machine for the walks (part 6): the reading operations are sound: slices, fields, places, parts. -/
import Derived.Test.YtjapkdcomcgamaaGreatDoorAbE
set_option linter.all false
namespace Go.Ab
open Go Go.Sep
variable [Facts]
section
variable {Pr : Program} {T : Tab} {S : Frz} {K : List CO} {fr : List Chunk} {st : St} {a : Act} {w : World} {W : World → Prop}
variable {dst : Option Tmp} {ty : TypeId} {pos : String} {af : Array Edge} {gd : Option (Nat × Bool)}

theorem okc_sound {o : Oper} {c : C} {v : Value} (hy : Yields Pr a W o v) (hm : MC S (K.map CO.base) c v) : QSound Pr S K a W o (okc c) := fun _ hq => ⟨v, .v (.one c), hy, hm, hq⟩

theorem u_pos (u : U) : 0 < u.size := by cases u <;> decide

theorem nil_list {S : Frz} (u : U) : MP S (.list u []) (.slice none 0 0) :=
  .list u [] none 0 [] (by simp) (fun w _ => ⟨none, 0, rfl, Nat.le_refl _, Nat.zero_le _, fun _ => rfl, by simp, fun j u h => by simp at h⟩) (fun i x j p v h => by simp at h)
theorem purC_sound {S : Frz} {bs : List Value} {z : P} {c : C} {p : P} {v : Value} (h : purC z c = some p) (hm : MC S bs c v) : MP S p v := by
  unfold purC at h
  split at h
  · cases h; exact hm
  · split at h
    · cases h; cases hm; exact nil_list _
    · cases h
  · cases h
theorem pureAll_sound {S : Frz} {bs : List Value} : ∀ {zs : List P} {cs : List C} {ps : List P} {vs : List Value}, pureAll zs cs = some ps → MCs S bs cs vs → MPs S ps vs
  | [], [], ps, vs, h, hm => by cases h; cases vs with | nil => trivial | cons _ _ => exact hm.elim
  | z :: zs, c :: cs, ps, vs, h, hm => by
    simp only [pureAll] at h
    split at h
    · rename_i p ps' h1 h2
      cases h
      cases vs with
      | nil => exact hm.elim
      | cons v vs => exact ⟨purC_sound h1 hm.1, pureAll_sound h2 hm.2⟩
    · cases h
  | [], _ :: _, _, _, h, _ => by cases h
  | _ :: _, [], _, _, h, _ => by cases h

theorem makeInterface_sound (h : Sit Pr T S K fr st a w) {t : Nat} {x : Operand} : QSound Pr S K a W ⟨dst, .makeInterface t x, ty, pos, af, gd⟩ (qop alg T st (.makeInterface t x)) := by
  simp only [qop]
  split
  · rename_i e d he hd
    have hm := h.eval hd
    obtain ⟨ds, i, hu, -, hty, -⟩ := TE.und (Tab.get h.tab he)
    generalize hx : a.eval x = xv at hm
    split
    · exact no_sound
    · exact no_sound
    · rename_i hno hnf
      have hy : Yields Pr a W ⟨dst, .makeInterface t x, ty, pos, af, gd⟩ (.iface t xv) := by
        cases hety : e.ty <;> rw [hety] at hty <;> first | (exact (hno hety).elim) | (exact (hnf hety).elim) | (cases ds <;> first | (simp [Ty.fits] at hty; done) | simp [Yields, execOp, hx, Instr.makeInterface, run_underlying hu])
      split
      · rename_i c
        split
        · rename_i z hz
          split
          · rename_i p hp
            have h1 := pureAll_sound hp (vs := [xv]) ⟨hm, trivial⟩
            exact okc_sound hy ⟨xv, h1.1, rfl⟩
          · exact no_sound
        · exact no_sound
      · rename_i cs
        split
        · rename_i z hz
          split
          · rename_i ps hps
            obtain ⟨vs, hvs, rfl⟩ := hm
            exact okc_sound hy ⟨vs, pureAll_sound hps hvs, rfl⟩
          · exact no_sound
        · exact no_sound
      · exact no_sound
  · exact no_sound

theorem extract_sound (h : Sit Pr T S K fr st a w) {i : Nat} {x : Operand} : QSound Pr S K a W ⟨dst, .extract x i, ty, pos, af, gd⟩ (qop alg T st (.extract x i)) := by
  intro Q hq
  simp only [qop] at hq
  split at hq
  · rename_i l hl
    split at hq
    · rename_i v0 hv
      have hm := h.eval hl
      generalize hx : a.eval x = xv at hm
      obtain ⟨vs, hvs, rfl⟩ := hm
      rw [nth_eq] at hv
      have : ∀ {l : List V0} {vs : List Value} {i : Nat}, MVs S (K.map CO.base) l vs → l[i]? = some v0 → ∃ u, vs[i]? = some u ∧ MV S (K.map CO.base) v0 u := by
        intro l
        induction l with
        | nil => intro vs i _ h; simp at h
        | cons c l ih =>
          intro vs i hvs h
          cases vs with
          | nil => exact hvs.elim
          | cons v vs =>
            cases i with
            | zero => simp at h; subst h; exact ⟨v, rfl, hvs.1⟩
            | succ i => obtain ⟨u, h1, h2⟩ := ih hvs.2 (i := i) (by simpa using h); exact ⟨u, by simpa using h1, h2⟩
      obtain ⟨u, hu, hmu⟩ := this hvs hv
      exact ⟨u, .v v0, by simp [Yields, execOp, hx, Instr.extract, hu], hmu, hq⟩
    · exact hq.elim
  · exact hq.elim

theorem run_fieldAt {s f : Nat} {gs : Array Field} {fd : Field} (hs : Pr.underlying s = some (.struct gs)) (hf : gs[f]? = some fd) {i : TypeInfo} (hi : Pr.info? fd.type = some i) (h0 : 0 < i.size) (p : Addr) :
    (Instr.fieldAt s (.pointer (some p)) f).run Pr w = .ok (.pointer (some (p.add fd.offset))) w := by
  simp [Instr.fieldAt, run_underlying hs, hf, Instr.sureAddr, fieldPlace, sizeOf, typeInfo, hi, show ¬ i.size = 0 by omega]

theorem fieldAddr_sound (h : Sit Pr T S K fr st a w) {t f : Nat} {x : Operand} : QSound Pr S K a W ⟨dst, .fieldAddr t x f, ty, pos, af, gd⟩ (qop alg T st (.fieldAddr t x f)) := by
  simp only [qop]
  split
  · rename_i e c he hc
    have hm := h.one hc
    obtain ⟨ds, i, hu, -, hty, -⟩ := TE.und (Tab.get h.tab he)
    generalize hx : a.eval x = xv at hm
    split
    · rename_i fs hfs
      rw [hfs] at hty
      obtain ⟨gs, rfl, hgs⟩ := fits_struct hty
      split
      · rename_i o tf hnf
        rw [nth_eq, ← hgs, List.getElem?_map, Option.map_eq_some_iff] at hnf
        obtain ⟨fd, hfd, hoff⟩ := hnf
        simp only [Prod.mk.injEq] at hoff
        obtain ⟨rfl, rfl⟩ := hoff
        have hfd' : gs[f]? = some fd := by rw [← Array.getElem?_toList]; exact hfd
        split
        · rename_i te hte
          obtain ⟨_, ie, _, hie, _, hsz, _⟩ := TE.und (Tab.get h.tab hte)
          have go : ∀ p, xv = .pointer (some p) → 0 < te.size → Yields Pr a W ⟨dst, .fieldAddr t x f, ty, pos, af, gd⟩ (.pointer (some (p.add fd.offset))) := by
            intro p hp h0 w _
            simp only [ execOp, hx, hp, Sem.run_bind, run_fieldAt hu hfd' hie (by omega), Result.andThen_ok, Sem.run_pure]
          split
          · rename_i k off hb
            obtain ⟨b, hb1, rfl⟩ := hm
            refine okc_sound (go _ rfl (by simpa using hb)) ⟨b, hb1, ?_⟩
            simp only [Addr.add]
            split
            · rename_i h0; rw [h0]; rfl
            · rfl
          · rename_i u k i off hb
            obtain ⟨ao, n, cap, hb1, h0, rfl⟩ := hm
            refine okc_sound (go _ rfl (by simpa using hb)) ⟨ao, n, cap, hb1, h0, ?_⟩
            simp only [Addr.add, adr]
            split
            · rename_i h0; rw [h0]; rfl
            · simp only [Nat.add_assoc]
          · rename_i u l i off hb
            obtain ⟨ao, cap, vs, h1, h2, h3, h0, rfl⟩ := hm
            refine okc_sound (go _ rfl (by simpa using hb)) ⟨ao, cap, vs, h1, h2, h3, h0, ?_⟩
            simp only [Addr.add, adr]
            split
            · rename_i h0; rw [h0]; rfl
            · simp only [Nat.add_assoc]
          · exact no_sound
        · exact no_sound
      · exact no_sound
    · exact no_sound
  · exact no_sound

theorem run_part {t : Nat} {d : TypeDesc} {i : TypeInfo} (hu : Pr.underlying t = some d) (hi : Pr.info? t = some i) (vs : List Value) (o : Nat) :
    (d.isRow = true → (part t vs.toArray o).run Pr w = .ok (.agg ((vs.drop o).take i.size).toArray) w) ∧ (d.isRow = false → ∀ v, vs[o]? = some v → (part t vs.toArray o).run Pr w = .ok v w) := by
  constructor
  · intro hr
    have : (isAgg t).run Pr w = .ok true w := by unfold isAgg; cases d <;> simp_all [run_underlying hu, TypeDesc.isRow]
    simp [part, this, sizeOf, typeInfo, hi]
  · intro hr v hv
    have : (isAgg t).run Pr w = .ok false w := run_isAgg_no hu hr
    simp [part, this, hv]

theorem field_sound (h : Sit Pr T S K fr st a w) {t f : Nat} {x : Operand} : QSound Pr S K a W ⟨dst, .field t x f, ty, pos, af, gd⟩ (qop alg T st (.field t x f)) := by
  intro Q hq
  simp only [qop] at hq
  split at hq
  · rename_i e cs he hd
    have hm := h.eval hd
    obtain ⟨ds, i, hu, -, hty, -⟩ := TE.und (Tab.get h.tab he)
    generalize hx : a.eval x = xv at hm
    obtain ⟨vs, hvs, rfl⟩ := hm
    unfold fieldQ at hq
    split at hq
    · rename_i fs hfs
      rw [hfs] at hty
      obtain ⟨gs, rfl, hgs⟩ := fits_struct hty
      split at hq
      · rename_i off tf hnf
        rw [nth_eq, ← hgs, List.getElem?_map, Option.map_eq_some_iff] at hnf
        obtain ⟨fd, hfd, hoff⟩ := hnf
        simp only [Prod.mk.injEq] at hoff
        obtain ⟨rfl, rfl⟩ := hoff
        have hfd' : gs[f]? = some fd := by rw [← Array.getElem?_toList]; exact hfd
        split at hq
        · rename_i te hte
          obtain ⟨de, ie, hue, hie, htye, hsz, _⟩ := TE.und (Tab.get h.tab hte)
          have hp := fun w => run_part (w := w) hue hie vs fd.offset
          rcases fetch_sound hq (hvs.slice fd.offset te.size) with ⟨hr, hl, hQ⟩ | ⟨hr, c1, v1, e1, e2, hm1, hQ⟩
          · refine ⟨.agg ((vs.drop fd.offset).take te.size).toArray, .v (.agg ((cs.drop fd.offset).take te.size)), ?_, ⟨_, hvs.slice fd.offset te.size, rfl⟩, hQ⟩
            intro w _
            have := (hp w).1 (fits_row htye hr)
            rw [hsz] at this
            simp only [execOp, hx, Instr.field, Sem.run_bind, run_underlying hu, Result.andThen_ok, hfd', asAgg, Sem.run_pure, this]
          · have hv : vs[fd.offset]? = some v1 := by
              have : ((vs.drop fd.offset).take te.size)[0]? = some v1 := by rw [e2]; rfl
              rw [List.getElem?_take] at this
              split at this
              · rw [List.getElem?_drop] at this; simpa using this
              · cases this
            refine ⟨v1, .v (.one c1), ?_, hm1, hQ⟩
            intro w _
            have := (hp w).2 (fits_norow htye hr) v1 hv
            simp only [execOp, hx, Instr.field, Sem.run_bind, run_underlying hu, Result.andThen_ok, hfd', asAgg, Sem.run_pure, this]
        · exact hq.elim
      · exact hq.elim
    · exact hq.elim
  · exact hq.elim

theorem index_sound (h : Sit Pr T S K fr st a w) {t : Nat} {x i : Operand} : QSound Pr S K a W ⟨dst, .index t x i, ty, pos, af, gd⟩ (qop alg T st (.index t x i)) := by
  simp only [qop]
  split
  · rename_i e l n he hd hn
    have hm := h.eval hd
    obtain ⟨k, hk⟩ := h.int hn
    obtain ⟨ds, i, hu, -, hty, -⟩ := TE.und (Tab.get h.tab he)
    generalize hx : a.eval x = xv at hm
    cases hm
    split
    · rename_i hety
      rw [hety] at hty
      have := fits_str hty
      subst this
      refine need_sound fun h0 => ?_
      rw [alg_inb, alg_len] at h0
      have hlt : n.toNat < l.length := by omega
      refine okp_sound (v := .int .u8 (alg.b2i (alg.get l 0 n))) ?_ (.int _ _)
      intro w _
      have := ex_strIndex (w := w) (dst := dst) (ty := ty) (pos := pos) (af := af) (gd := gd) hu (List.getElem?_eq_getElem hlt) hx hk (by omega)
      simp only [this, alg_b2i, alg_get, List.getD_eq_getElem?_getD, List.getElem?_eq_getElem hlt, Option.getD_some]
    · exact no_sound
  · exact no_sound

theorem run_arrayAt {t n e : Nat} (ht : Pr.underlying t = some (.array n e)) {i : TypeInfo} (hi : Pr.info? e = some i) (b o j : Nat) (hj : j < n) (k : IntKind) :
    (Instr.indexAt t (.pointer (some ⟨b, o, none⟩)) (.int k j)).run Pr w = .ok (.pointer (some ⟨b, o + j * i.size, none⟩)) w := by
  have e1 : (⟨b, o, none⟩ : Addr).add (j * i.size) = ⟨b, o + j * i.size, none⟩ := by
    unfold Addr.add
    split
    · rename_i h0; rw [h0]; rfl
    · rfl
  simp [Instr.indexAt, asIntOf, run_underlying ht, Instr.sureAddr, hj, sizeOf, typeInfo, hi, e1]

theorem indexAddr_sound (h : Sit Pr T S K fr st a w) {t : Nat} {x ix : Operand} : QSound Pr S K a W ⟨dst, .indexAddr t x ix, ty, pos, af, gd⟩ (qop alg T st (.indexAddr t x ix)) := by
  simp only [qop]
  split
  · rename_i e c n he hc hn
    have hm := h.one hc
    obtain ⟨k, hk⟩ := h.int hn
    have hf := Tab.get h.tab he
    obtain ⟨ds, i, hu, -, hty, -⟩ := TE.und hf
    generalize hx : a.eval x = xv at hm
    unfold indexAddrQ
    split
    · rename_i m el hety
      rw [hety] at hty
      have := fits_array hty
      subst this
      split
      · rename_i kk off j te hj hte
        obtain ⟨_, ie, _, hie, _, hsz, _⟩ := TE.und (Tab.get h.tab hte)
        split
        · rename_i hjm
          have hjm : j < m := by simpa using hjm
          obtain ⟨b, hb, rfl⟩ := hm
          refine okc_sound (v := .pointer (some ⟨b, off + j * te.size, none⟩)) ?_ ⟨b, hb, rfl⟩
          have hnj : n = (j : Int) := by
            unfold litIx at hj
            split at hj
            · cases hj; rfl
            · cases hj
          subst hnj
          intro w _
          have := run_arrayAt (w := w) hu hie b off j hjm k
          rw [hsz] at this
          simp only [execOp, hx, hk, Sem.run_bind, this, Result.andThen_ok, Sem.run_pure]
        · exact no_sound
      · rename_i u kk i0 off te hte
        obtain ⟨_, ie, _, hie, _, hsz, _⟩ := TE.und (Tab.get h.tab hte)
        split
        · rename_i hb hl0
          have hb := Nat.eq_of_beq_eq_true hb
          have h00 : i0 = 0 := by
            unfold litIx at hl0
            split at hl0
            · cases hl0; rfl
            · cases hl0
          subst h00
          refine need_sound fun h0 => ?_
          have h0 : 0 ≤ n ∧ n < (m : Int) := h0
          obtain ⟨ao, m', cap, hbase, _, rfl⟩ := hm
          obtain ⟨j, rfl⟩ : ∃ j : Nat, n = j := ⟨n.toNat, by omega⟩
          refine okc_sound (v := .pointer (some (adr ao (j * u.size + 0)))) ?_ ⟨ao, m', cap, hbase, by omega, by rw [Int.toNat_natCast]⟩
          intro w _
          have := run_arrayAt (w := w) hu hie (blk ao) (ofs ao + (Int.toNat 0 * u.size + 0)) j (by omega) k
          rw [hsz, hb] at this
          have e1 : adr ao (Int.toNat 0 * u.size + 0) = ⟨blk ao, ofs ao + (Int.toNat 0 * u.size + 0), none⟩ := rfl
          have e2 : adr ao (j * u.size + 0) = ⟨blk ao, ofs ao + (Int.toNat 0 * u.size + 0) + j * u.size, none⟩ := by unfold adr; simp
          rw [e1] at hx
          rw [e2]
          simp only [execOp, hx, hk, Sem.run_bind, this, Result.andThen_ok, Sem.run_pure]
        · exact no_sound
      · exact no_sound
    · rename_i el hety
      rw [hety] at hty
      have := fits_slice hty
      subst this
      split
      · exact no_sound
      · rename_i te hte
        obtain ⟨_, ie, _, hie, _, hsz, _⟩ := TE.und (Tab.get h.tab hte)
        have hs1 : (Pr.info? el).map (·.size) = some te.size := TE.size' (Tab.get h.tab hte)
        -- an index within bounds, the slice not empty
        have go : ∀ {ao : Option Addr} {m cap : Nat} {cs : List Value} {sz : Nat}, xv = .slice ao m cap → Rd w sz (.slice ao m cap) m cs → te.size = sz → 0 < sz → 0 ≤ n → n < m →
            Yields Pr a W ⟨dst, .indexAddr t x ix, ty, pos, af, gd⟩ (.pointer (some (adr ao (n.toNat * sz)))) := by
          intro ao m cap cs sz hv hrd he2 h0 h1 h2
          subst he2
          have hl := hrd.len
          have hp : n.toNat * te.size < cs.length := by
            rw [hl]
            exact Nat.mul_lt_mul_of_pos_right (by omega) h0
          exact fun w _ => ex_index hu hs1 n.toNat (hx.trans hv) hk (by omega) (by omega) (hrd.spot hp)
        split
        · rename_i u l
          split
          · rename_i hb
            have hb := Nat.eq_of_beq_eq_true hb
            refine need_sound fun h0 => ?_
            rw [alg_inb, alg_len] at h0
            cases hm with
            | list _ _ ao cap vs hlen hr hxs =>
              refine okc_sound (go rfl (hr w h.on) hb (u_pos u) h0.1 h0.2) ⟨ao, cap, vs, hlen, hr, hxs, h0.1, rfl⟩
          · exact no_sound
        · rename_i kk
          split
          · rename_i u E l ho
            split
            · rename_i hb
              have hb := Nat.eq_of_beq_eq_true hb
              refine need_sound fun h0 => ?_
              rw [alg_inb, alg_len] at h0
              rw [nth_eq] at ho
              obtain ⟨ao, cap, vs, hkk, hlen, hxs, hrd⟩ := h.row ho
              have hbase := base_get hkk
              have hv := hm.1
              rw [hbase] at hv
              cases hv
              exact okc_sound (go rfl hrd hb (u_pos u) h0.1 h0.2) ⟨ao, _, cap, hbase, h0.1, rfl⟩
            · exact no_sound
          · exact no_sound
        · rename_i u kk lo hi
          split
          · rename_i u' E l ho
            split
            · rename_i hb hb'
              have hb := Nat.eq_of_beq_eq_true hb
              have hb' := Nat.eq_of_beq_eq_true hb'
              refine need_sound fun h0 => ?_
              rw [alg_inb, alg_sub] at h0
              obtain ⟨ao, m, cap, hbase, h1, h00, hsub⟩ := hm
              rw [nth_eq] at ho
              obtain ⟨ao', cap', vs, hkk, hlen, hxs, hrd⟩ := h.row ho
              have hbase2 := hbase
              rw [base_get hkk] at hbase2
              simp only [CO.base, Option.some.injEq, Value.slice.injEq] at hbase2
              obtain ⟨rfl, rfl, rfl⟩ := hbase2
              rw [← hb'] at hrd
              have hs := hsub.rd hrd
              obtain ⟨ao2, cap2, rfl, h2, h3, h4, h5, h6, h7, -⟩ := hsub
              have h7 := h7 (by omega)
              have hy := go rfl hs hb (u_pos u) h0.1 (by omega)
              refine okc_sound (v := .pointer (some (adr ao' ((alg.add lo n).toNat * u.size)))) ?_ ⟨ao', _, cap', hbase, by rw [alg_add]; omega, rfl⟩
              have hl := hrd.len
              have hpos : 0 < vs.length := by rw [hl]; exact Nat.mul_pos (by omega) (u_pos u)
              obtain ⟨b, rfl, hsp⟩ := hrd.spot hpos
              have e1 : (alg.add lo n).toNat = lo.toNat + n.toNat := by rw [alg_add]; omega
              rw [e1, Nat.add_mul]
              have e2 : adr ao2 (n.toNat * u.size) = adr (some b) (lo.toNat * u.size + n.toNat * u.size) := by
                rw [h7]; simp only [Option.map_some, add_adr hsp, adr, blk, ofs, Nat.add_assoc]
              rw [e2] at hy
              exact hy
            · exact no_sound
          · exact no_sound
        · exact no_sound
    · exact no_sound
  · exact no_sound

theorem opt_int (h : Sit Pr T S K fr st a w) {o : Option Operand} {n : Option Int} (hn : match o, n with | none, none => True | some x, some m => intC (st.eval x) = some m | _, _ => False) {d : Int} {dn : Nat} (hd : d = dn) {b : Nat} (hb : n.getD d = b) :
    (o.map a.eval = none ∧ b = dn) ∨ ∃ k i, o.map a.eval = some (.int k i) ∧ i = b := by
  cases o with
  | none => cases n with
    | none => exact .inl ⟨rfl, by simp at hb; omega⟩
    | some m => exact hn.elim
  | some x => cases n with
    | none => exact hn.elim
    | some m => obtain ⟨k, hk⟩ := h.int hn; exact .inr ⟨k, m, by simp [hk], hb⟩

theorem ex_arrCut {t m E size : Nat} {x : Operand} {lo hi : Option Operand} (ht : Pr.underlying t = some (.array m E)) (hs : (Pr.info? E).map (·.size) = some size) {ad : Addr} (l h : Nat) (hx : a.eval x = .pointer (some ad))
    (hlo : (lo.map a.eval = none ∧ l = 0) ∨ ∃ k i, lo.map a.eval = some (.int k i) ∧ i = l) (hhi : (hi.map a.eval = none ∧ h = m) ∨ ∃ k i, hi.map a.eval = some (.int k i) ∧ i = h) (hlh : l ≤ h) (hn : h ≤ m) :
    (execOp a.eval ⟨dst, .slice t x lo hi none, ty, pos, af, gd⟩).run Pr w = .ok (.value (.slice (some (if m = l then ad else ad.add (l * size))) (h - l) (m - l))) w := by
  obtain ⟨inf, hi', hz⟩ : ∃ inf, Pr.info? E = some inf ∧ inf.size = size := by
    cases h : Pr.info? E with
    | none => simp [h] at hs
    | some inf => exact ⟨inf, rfl, by simpa [h] using hs⟩
  have hlm : l ≤ m := by omega
  rcases hlo with ⟨h1, rfl⟩ | ⟨k, i, h1, rfl⟩ <;> rcases hhi with ⟨h2, rfl⟩ | ⟨k', i', h2, rfl⟩ <;>
    simp [execOp, hx, h1, h2, Instr.sliceAt, Instr.sliceBounds, Instr.sliceBound, Instr.sureAddr, asIntOf, run_underlying ht, sizeOf, typeInfo, hi', hz, hlh, hn, hlm]

theorem slice_core (h : Sit Pr T S K fr st a w) {t : Nat} {x : Operand} {lo hi : Option Operand} {e : TE} {c : C} (he : T t = some e) (hc : oneC (st.eval x) = some c) {ln hn : Option Int}
    (hlo : match lo, ln with | none, none => True | some x, some m => intC (st.eval x) = some m | _, _ => False) (hhi : match hi, hn with | none, none => True | some x, some m => intC (st.eval x) = some m | _, _ => False)
    {sz : Nat} (hsz : sz = match e.ty with | .slice el => (match T el with | some te => te.size | none => 0) | .array _ el => (match T el with | some te => te.size | none => 0) | _ => 0) :
    QSound Pr S K a W ⟨dst, .slice t x lo hi none, ty, pos, af, gd⟩ (sliceQ alg st.hp e.ty sz c ln hn) := by
  have hm := h.one hc
  have hf := Tab.get h.tab he
  obtain ⟨ds, i, hu, -, hty, -⟩ := TE.und hf
  generalize hx : a.eval x = xv at hm
  have elem : ∀ {el : Nat} {u : U}, e.ty = .slice el → Nat.beq sz u.size = true → Pr.underlying t = some (.slice el) ∧ (Pr.info? el).map (·.size) = some u.size := by
    intro el u hel hb
    have hb := Nat.eq_of_beq_eq_true hb
    rw [hel] at hty hsz
    have := fits_slice hty
    subst this
    refine ⟨hu, ?_⟩
    cases hte : T el with
    | none => simp only [hte] at hsz; have := u_pos u; omega
    | some te => simp only [hte] at hsz; rw [← hb, hsz]; exact TE.size' (Tab.get h.tab hte)
  -- the bounds as numbers
  have bnd : ∀ {m : Nat}, alg.cutb (ln.getD 0) (hn.getD (m : Int)) (m : Int) → ∃ l r : Nat, ln.getD 0 = (l : Int) ∧ hn.getD (m : Int) = (r : Int) ∧ l ≤ r ∧ r ≤ m := by
    intro m hb
    rw [alg_cutb] at hb
    exact ⟨(ln.getD 0).toNat, (hn.getD (m : Int)).toNat, by omega, by omega, by omega, by omega⟩
  unfold sliceQ
  split
  · rename_i l hety
    rw [hety] at hty
    have := fits_str hty
    subst this
    refine need_sound fun h0 => ?_
    rw [alg_len] at h0
    obtain ⟨lb, rb, e1, e2, h1, h2⟩ := bnd h0
    cases hm with
    | str _ hl =>
      refine okp_sound (v := .string (Sep.S (alg.cut l (ln.getD 0) (hn.getD (alg.len l))))) ?_ (.str _ ?_)
      · rw [alg_len, e1, e2, alg_cut, Int.toNat_natCast, Int.toNat_natCast]
        exact fun w _ => ex_strCut hu lb rb hx (opt_int h hlo (d := 0) (dn := 0) rfl e1) (opt_int h hhi (d := (l.length : Int)) rfl e2) h1 h2
      · rw [alg_cut]; simp; omega
  · rename_i u l hety
    split
    · rename_i hb
      obtain ⟨hu', hs'⟩ := elem hety hb
      refine need_sound fun h0 => ?_
      rw [alg_len] at h0
      obtain ⟨lb, rb, e1, e2, h1, h2⟩ := bnd h0
      cases hm with
      | list _ _ ao cap vs hlen hr hxs =>
        have hrd := hr w h.on
        have hrd2 := hrd
        obtain ⟨_, _, e0, hnc, -⟩ := hrd2
        cases e0
        refine okp_sound (v := Sep.sub (.slice ao l.length cap) u.size lb rb) (fun w _ => ex_cut hu' hs' lb rb hnc hx (opt_int h hlo (d := 0) (dn := 0) rfl e1) (opt_int h hhi (d := (l.length : Int)) rfl e2) h1 h2) ?_
        rw [alg_len, e1, e2, alg_cut, Int.toNat_natCast, Int.toNat_natCast]
        have this := fun w' hw' => (hr w' hw').sub h1 h2
        unfold Sep.sub at this ⊢
        simp only at this ⊢
        obtain ⟨l2, hl2e⟩ : ∃ l2, l2 = (l.drop lb).take (rb - lb) := ⟨_, rfl⟩
        have hl2 : l2.length = rb - lb := by rw [hl2e]; simp; omega
        rw [← hl2e]
        rw [← hl2] at this ⊢
        refine .list u _ _ _ _ (this w h.on).len this fun i x j p v hi' hj hv => ?_
        rw [hl2e, List.getElem?_take] at hi'
        split at hi'
        · rw [List.getElem?_drop] at hi'
          refine hxs (lb + i) x j p v hi' hj ?_
          rw [List.getElem?_take] at hv
          split at hv
          · rw [List.getElem?_drop] at hv
            rw [← hv]
            congr 1
            rw [Nat.add_mul]; omega
          · cases hv
        · cases hi'
    · exact no_sound
  · rename_i kk hety
    split
    · rename_i u E l ho
      split
      · rename_i hb
        obtain ⟨hu', hs'⟩ := elem hety hb
        refine need_sound fun h0 => ?_
        rw [alg_len] at h0
        obtain ⟨lb, rb, e1, e2, h1, h2⟩ := bnd h0
        rw [nth_eq] at ho
        obtain ⟨ao, cap, vs, hkk, hlen, hxs, hrd⟩ := h.row ho
        have hbase := base_get hkk
        have hv := hm.1
        rw [hbase] at hv
        cases hv
        have hrd2 := hrd
        obtain ⟨_, _, e0, hnc, -⟩ := hrd2
        cases e0
        refine okc_sound (v := Sep.sub (.slice ao l.length cap) u.size lb rb) (fun w _ => ex_cut hu' hs' lb rb hnc hx (opt_int h hlo (d := 0) (dn := 0) rfl e1) (opt_int h hhi (d := (l.length : Int)) rfl e2) h1 h2) ?_
        rw [alg_len, e1, e2]
        exact ⟨ao, _, cap, hbase, by omega, by omega, by rw [Int.toNat_natCast, Int.toNat_natCast]; exact .mk hrd h1 h2⟩
      · exact no_sound
    · exact no_sound
  · rename_i u kk a0 b0 hety
    split
    · rename_i hb
      obtain ⟨hu', hs'⟩ := elem hety hb
      refine need_sound fun h0 => ?_
      obtain ⟨ao, m, cap, hbase, h1, h2, hsub⟩ := hm
      have hsub0 := hsub
      obtain ⟨ao2, cap2, rfl, h3, h4, h5, h6, h7, h8, -⟩ := hsub
      rw [alg_sub] at h0
      have hlen : b0 - a0 = ((b0.toNat - a0.toNat : Nat) : Int) := by omega
      rw [hlen] at h0
      obtain ⟨lb, rb, e1, e2, h9, h10⟩ := bnd h0
      have hy := fun w (_ : W w) => ex_cut (w := w) (dst := dst) (ty := ty) (pos := pos) (af := af) (gd := gd) hu' hs' lb rb h5 hx
          (opt_int h hlo (d := 0) (dn := 0) rfl e1) (opt_int h hhi (d := ((b0.toNat - a0.toNat : Nat) : Int)) rfl e2) h9 h10
      have e3 : (alg.add a0 (ln.getD 0)).toNat = a0.toNat + lb := by rw [alg_add, e1]; omega
      have e4 : (alg.add a0 (hn.getD (alg.sub b0 a0))).toNat = a0.toNat + rb := by rw [alg_add, alg_sub, hlen, e2]; omega
      refine okc_sound hy ⟨ao, m, cap, hbase, by rw [alg_add, e1]; omega, by rw [alg_add, alg_sub, hlen, e2]; omega, ?_⟩
      rw [e3, e4]
      exact hsub0.sub h9 h10
    · exact no_sound
  · rename_i el hety
    split
    · rename_i hb
      have hb : 0 < sz := by simpa [Nat.blt_eq] using hb
      have hm : xv = .slice none 0 0 := hm
      rw [hety] at hty hsz
      have := fits_slice hty
      subst this
      have hs' : (Pr.info? el).map (·.size) = some sz := by
        cases hte : T el with
        | none => simp only [hte] at hsz; omega
        | some te => simp only [hte] at hsz; rw [hsz]; exact TE.size' (Tab.get h.tab hte)
      refine need_sound fun h0 => ?_
      obtain ⟨lb, rb, e1, e2, h1, h2⟩ := bnd (m := 0) h0
      have hy := fun w (_ : W w) => ex_cut (w := w) (dst := dst) (ty := ty) (pos := pos) (af := af) (gd := gd) hu hs' lb rb (Nat.le_refl 0) (hx.trans hm) (opt_int h hlo (d := 0) (dn := 0) rfl e1) (opt_int h hhi (d := (0 : Int)) (dn := 0) rfl e2) h1 h2
      have hl0 : lb = 0 := by omega
      have hr0 : rb = 0 := by omega
      subst hl0; subst hr0
      have hsub : Sep.sub (.slice none 0 0) sz 0 0 = .slice none 0 0 := by simp [Sep.sub]
      rw [hsub] at hy
      exact okc_sound hy rfl
    · exact no_sound
  · rename_i n el u kk i0 off hety
    split
    · rename_i u' E l ho hl0
      simp only
      split
      · rename_i hb hb2 hn0 hn1
        have hb := Nat.eq_of_beq_eq_true hb
        have hb2 := Nat.eq_of_beq_eq_true hb2
        have hn0 : 0 < n := by simpa [Nat.blt_eq] using hn0
        have hn1 := Nat.le_of_ble_eq_true hn1
        rw [hety] at hty hsz
        have := fits_array hty
        subst this
        have hs' : (Pr.info? el).map (·.size) = some u.size := by
          cases hte : T el with
          | none => simp only [hte] at hsz; have := u_pos u; omega
          | some te => simp only [hte] at hsz; rw [← hb, hsz]; exact TE.size' (Tab.get h.tab hte)
        have h00 : i0 = 0 := by
          unfold litIx at hl0
          split at hl0
          · cases hl0; rfl
          · cases hl0
        subst h00
        refine need_sound fun h0 => need_sound fun h1 => ?_
        rw [alg_same, alg_len] at h1
        have h1 : (l.length : Int) = (n : Int) := h1
        obtain ⟨lb, rb, e1, e2, h2, h3⟩ := bnd (m := n) h0
        obtain ⟨ao, m', cap, hbase, _, rfl⟩ := hm
        rw [nth_eq] at ho
        obtain ⟨ao', cap', vs, hkk, hlen, hxs, hrd⟩ := h.row ho
        have hbase2 := hbase
        rw [base_get hkk] at hbase2
        simp only [CO.base, Option.some.injEq, Value.slice.injEq] at hbase2
        obtain ⟨rfl, rfl, rfl⟩ := hbase2
        rw [← hb2] at hrd
        obtain ⟨_, _, e0, hnc, hcm, hno, hl, hcells⟩ := hrd
        cases e0
        have hpos : 0 < vs.length := by rw [hlen]; exact Nat.mul_pos (by omega) (u_pos u')
        obtain ⟨⟨a0, rfl, hsp⟩, _⟩ := hcells 0 vs[0] (by simp [hpos])
        have ea : adr (some a0) (Int.toNat 0 * u.size + 0) = a0 := by
          cases a0 with | mk b o s => cases hsp; unfold adr blk ofs; simp
        rw [ea] at hx
        have hy := fun w (_ : W w) => ex_arrCut (w := w) (dst := dst) (ty := ty) (pos := pos) (af := af) (gd := gd) hu hs' lb rb hx
          (opt_int h hlo (d := 0) (dn := 0) rfl e1) (opt_int h hhi (d := (n : Int)) rfl e2) h2 h3
        have e2' : hn.getD (Int.ofNat n) = (rb : Int) := e2
        refine okc_sound hy ⟨some a0, _, _, hbase, by rw [e1]; omega, by rw [e2']; omega, _, n - lb, by rw [e1, e2', Int.toNat_natCast, Int.toNat_natCast], by rw [e1, e2', Int.toNat_natCast, Int.toNat_natCast]; exact h2, by rw [e2', Int.toNat_natCast]; omega, by rw [e1, e2', Int.toNat_natCast, Int.toNat_natCast]; omega, by omega, fun e => (by cases e), ?_, ?_⟩
        · rw [e1, e2', Int.toNat_natCast, Int.toNat_natCast]
          intro hlt
          rw [if_neg (by omega)]; rfl
        · rw [e1, Int.toNat_natCast]
          intro h0
          subst h0
          refine ⟨?_, by omega⟩
          rw [if_neg (by omega)]
          exact map_add0 (some a0) (0 * u.size) (Nat.zero_mul _)
      · exact no_sound
    · exact no_sound
  · exact no_sound

theorem slice_sound (h : Sit Pr T S K fr st a w) {t : Nat} {x : Operand} {lo hi : Option Operand} : QSound Pr S K a W ⟨dst, .slice t x lo hi none, ty, pos, af, gd⟩ (qop alg T st (.slice t x lo hi none)) := by
  simp only [qop]
  split
  · rename_i e c he hc
    split
    · exact slice_core h he hc trivial trivial rfl
    · split
      · rename_i n hn; exact slice_core h he hc hn trivial rfl
      · exact no_sound
    · split
      · rename_i n hn; exact slice_core h he hc trivial hn rfl
      · exact no_sound
    · split
      · rename_i n m hn hm; exact slice_core h he hc hn hm rfl
      · exact no_sound
  · exact no_sound

theorem ex_slice3 {E size : Nat} {t : Nat} {x h m : Operand} (ht : Pr.underlying t = some (.slice E)) (hs : (Pr.info? E).map (·.size) = some size) {ao : Option Addr} {n cap : Nat} (q : Nat) (hcap : n ≤ cap) (hx : a.eval x = .slice ao n cap)
    {k k' : IntKind} (hh : a.eval h = .int k (q : Int)) (hm : a.eval m = .int k' (q : Int)) (hn : q ≤ n) :
    (execOp a.eval ⟨dst, .slice t x none (some h) (some m), ty, pos, af, gd⟩).run Pr w = .ok (.value (.slice ao q q)) w := by
  obtain ⟨inf, hi, hz⟩ : ∃ inf, Pr.info? E = some inf ∧ inf.size = size := by
    cases h : Pr.info? E with
    | none => simp [h] at hs
    | some inf => exact ⟨inf, rfl, by simpa [h] using hs⟩
  have hqc : q ≤ cap := by omega
  have hmap : ao.map (·.add 0) = ao := map_add0 ao 0 rfl
  have hmap' : Option.map (fun x => Addr.add x 0) ao = ao := hmap
  simp [execOp, hx, hh, hm, Instr.sliceAt, Instr.slice, Instr.sliceBounds, Instr.sliceBound, asIntOf, run_underlying ht, sizeOf, typeInfo, hi, hqc, hmap']

theorem slice3_sound (h : Sit Pr T S K fr st a w) {t : Nat} {x y z : Operand} : QSound Pr S K a W ⟨dst, .slice t x none (some y) (some z), ty, pos, af, gd⟩ (qop alg T st (.slice t x none (some y) (some z))) := by
  simp only [qop]
  split
  · rename_i e k n m he hc hn hm
    split
    · rename_i el u E l hety ho
      split
      · rename_i te hte
        split
        · rename_i hb
          refine need_sound fun hnm => need_sound fun h0 => ?_
          rw [alg_same] at hnm
          subst hnm
          rw [alg_cutb, alg_len] at h0
          have hb := Nat.eq_of_beq_eq_true hb
          have hmc := h.one hc
          have hf := Tab.get h.tab he
          obtain ⟨ds, i, hu, -, hty, -⟩ := TE.und hf
          rw [hety] at hty
          have := fits_slice hty
          subst this
          have hs' : (Pr.info? el).map (·.size) = some u.size := by rw [← hb]; exact TE.size' (Tab.get h.tab hte)
          obtain ⟨k1, hy⟩ := h.int hn
          obtain ⟨k2, hz⟩ := h.int hm
          generalize hx : a.eval x = xv at hmc
          rw [nth_eq] at ho
          obtain ⟨ao, cap, vs, hkk, hlen, hxs, hrd⟩ := h.row ho
          have hbase := base_get hkk
          have hv := hmc.1
          rw [hbase] at hv
          cases hv
          obtain ⟨_, _, e0, hnc, hcm, hno, _⟩ := hrd
          cases e0
          obtain ⟨q, hq⟩ : ∃ q : Nat, n = q := ⟨n.toNat, by omega⟩
          subst hq
          refine okc_sound (v := .slice ao q q) (fun w _ => ex_slice3 hu hs' q hnc hx hy hz (by omega)) ?_
          refine ⟨ao, _, cap, hbase, Int.le_refl _, by omega, ao, q, by simp, by simp, ?_, by simp, by omega, fun e => ?_, fun _ => ?_, fun _ => ⟨rfl, by omega⟩⟩
          · rw [Int.toNat_natCast]; omega
          · have := hno e; omega
          · rw [show Int.toNat 0 * u.size = 0 by simp, map_add0 _ _ rfl]
        · exact no_sound
      · exact no_sound
    · exact no_sound
  · exact no_sound

theorem zero_sound {S : Frz} : ∀ {vs : List Value} {ps : List P}, zeroFits vs ps = true → MPs S ps vs := by
  intro vs ps h
  induction ps generalizing vs with
  | nil => cases vs with
    | nil => trivial
    | cons v vs => unfold zeroFits at h; split at h <;> simp_all
  | cons p ps ih =>
    unfold zeroFits at h
    split at h
    · rename_i h1 h2; cases h2
    · rename_i k vs k' ps' h1; cases h1
      simp only [Bool.and_eq_true] at h
      rw [kindB_eq h.1]; exact ⟨.int _ _, ih h.2⟩
    · rename_i h1; cases h1; exact ⟨.bool _, ih h⟩
    · rename_i h1; cases h1; exact ⟨.str (S := S) [] (Nat.zero_le _), ih h⟩
    · rename_i vs u ps' h1; cases h1
      refine ⟨.list u [] none 0 [] (by simp) (fun w _ => ⟨none, 0, rfl, Nat.le_refl _, Nat.zero_le _, fun _ => rfl, by simp, fun j u h => by simp at h⟩) (fun i x j p v h => by simp at h), ih h⟩
    · rename_i h1; cases h1; exact ⟨.val _ rfl, ih h⟩
    · rename_i h1; cases h1; exact ⟨.val _ rfl, ih h⟩
    · rename_i h1; cases h1; exact ⟨.val _ rfl, ih h⟩
    · cases h

theorem zc_sound {S : Frz} {bs : List Value} : ∀ {ps : List P} {vs : List Value}, zeroFits vs ps = true → MCs S bs (ps.map zc) vs := by
  intro ps
  induction ps with
  | nil => intro vs h; cases vs with
    | nil => trivial
    | cons v vs => unfold zeroFits at h; split at h <;> simp_all
  | cons p ps ih =>
    intro vs h
    unfold zeroFits at h
    split at h
    · rename_i h1 h2; cases h2
    · rename_i k vs k' ps' h1; cases h1
      simp only [Bool.and_eq_true] at h
      rw [kindB_eq h.1]; exact ⟨.int _ _, ih h.2⟩
    · rename_i h1; cases h1; exact ⟨.bool _, ih h⟩
    · rename_i h1; cases h1; exact ⟨.str (S := S) [] (Nat.zero_le _), ih h⟩
    · rename_i vs u ps' h1; cases h1; exact ⟨rfl, ih h⟩
    · rename_i h1; cases h1; exact ⟨.val _ rfl, ih h⟩
    · rename_i h1; cases h1; exact ⟨.val _ rfl, ih h⟩
    · rename_i h1; cases h1; exact ⟨.val _ rfl, ih h⟩
    · cases h

/-- The same laying, of values. -/
def layV : List Value → Nat → List Value → List Value
  | cs, _, [] => cs
  | cs, o, d :: ds => layV (cs.set o d) (o + 1) ds
theorem lay_sound {S : Frz} {bs : List Value} : ∀ {ds : List C} {vs : List Value} {cs : List C} {us : List Value} (o : Nat), MCs S bs ds vs → MCs S bs cs us → MCs S bs (lay cs o ds) (layV us o vs)
  | [], [], _, _, _, _, h => h
  | _ :: _, _ :: _, _, _, o, hd, h => lay_sound (o + 1) hd.2 (h.set o hd.1)
theorem fold_lay : ∀ (vs : List Value) (us : Array Value) (o k : Nat), (vs.zipIdx k).foldl (fun cs (c, j) => cs.setIfInBounds (o + j) c) us = (layV us.toList (o + k) vs).toArray
  | [], us, o, k => by simp [layV]
  | v :: vs, us, o, k => by
    simp only [List.zipIdx_cons, List.foldl_cons, layV]
    rw [fold_lay vs _ o (k + 1)]
    simp [Nat.add_assoc]
theorem lay_length : ∀ (ds cs : List C) (o : Nat), (lay cs o ds).length = cs.length
  | [], cs, o => rfl
  | d :: ds, cs, o => by simp only [lay]; rw [lay_length ds]; simp

theorem cellsOf_sound {S : Frz} {bs : List Value} {d : D} {cs : List C} {v : Value} (h : cellsOf d = some cs) (hm : MD S bs d v) : ∃ vs : List Value, v.cells = vs.toArray ∧ MCs S bs cs vs := by
  unfold cellsOf at h
  split at h
  · rename_i c
    cases h
    have h1 := MC.one (S := S) (bs := bs) hm
    refine ⟨[v], ?_, hm, trivial⟩
    cases v <;> first | rfl | (simp [Value.oneCell'] at h1)
  · rename_i cs'
    cases h
    obtain ⟨vs, hvs, rfl⟩ := hm
    exact ⟨vs, rfl, hvs⟩
  · cases h

theorem layAll_sound (h : Sit Pr T S K fr st a w) {pa pv : Nat → Option (Nat × Nat)} (hp : ∀ i x, pa i = some x → pv i = some x) : ∀ {parts : List (Nat × Operand)} {cs cs' : List C} {us : List Value},
    layAll pa cs (parts.map fun p => (p.1, st.eval p.2)) = some cs' → MCs S (K.map CO.base) cs us → ∃ us' : List Value, Instr.fill pv us.toArray (parts.map fun (i, x) => (i, a.eval x)) = some us'.toArray ∧ MCs S (K.map CO.base) cs' us' := by
  intro parts
  induction parts with
  | nil => intro cs cs' us hl hm; cases hl; exact ⟨us, rfl, hm⟩
  | cons pt parts ih =>
    intro cs cs' us hl hm
    obtain ⟨i, x⟩ := pt
    simp only [List.map_cons, layAll] at hl
    split at hl
    · rename_i o n d hpa hd
      split at hl
      · rename_i ds hds
        split at hl
        · rename_i hb1 hb2
          have hb1 := Nat.eq_of_beq_eq_true hb1
          have hb2 := Nat.le_of_ble_eq_true hb2
          obtain ⟨vs, hvc, hvm⟩ := cellsOf_sound hds (h.eval hd)
          obtain ⟨us', h1, h2⟩ := ih hl (lay_sound o hvm hm)
          refine ⟨us', ?_, h2⟩
          have hl1 := hvm.length
          have hl2 := hm.length
          simp only [List.map_cons, Instr.fill, hp _ _ hpa, hvc]
          rw [if_neg (by simp; omega)]
          have := fold_lay vs us.toArray o 0
          simp only [Nat.add_zero] at this
          rw [← h1, ← this]
          congr 1
          simp
        · cases hl
      · cases hl
    · cases hl

theorem places_sound (h : Sit Pr T S K fr st a w) : ∀ {gs : List Field} {pl : List (Nat × Nat)}, places T (gs.map fun f => (f.offset, f.type)) = some pl → gs.mapM (fun f => (Pr.info? f.type).map fun i => (f.offset, i.size)) = some pl := by
  intro gs
  induction gs with
  | nil => intro pl hp; cases hp; rfl
  | cons g gs ih =>
    intro pl hp
    simp only [List.map_cons, places] at hp
    split at hp
    · rename_i te l h1 h2
      cases hp
      obtain ⟨_, ie, _, hie, _, hsz, _⟩ := TE.und (Tab.get h.tab h1)
      simp [List.mapM_cons, hie, ih h2, hsz]
    · cases hp

theorem build_sound (h : Sit Pr T S K fr st a w) {t : Nat} {parts : Array (Nat × Operand)} : QSound Pr S K a W ⟨dst, .build t parts, ty, pos, af, gd⟩ (qop alg T st (.build t parts)) := by
  intro Q hq
  simp only [qop] at hq
  split at hq
  · rename_i e he
    have hf := Tab.get h.tab he
    obtain ⟨ds, it, hu, hit, hty, -⟩ := TE.und hf
    unfold buildQ at hq
    split at hq
    · exact hq.elim
    · rename_i z hz
      obtain ⟨it', zv, hit', hzv, hzf, hzl⟩ := TE.zero' hf hz
      rw [hit] at hit'; cases hit'
      have hm0 := zc_sound (S := S) (bs := K.map CO.base) hzf
      have hyield : ∀ {us' : List Value}, Pr.built t (parts.map fun (i, x) => (i, a.eval x)).toList = some us'.toArray → Yields Pr a W ⟨dst, .build t parts, ty, pos, af, gd⟩ (.agg us'.toArray) := by
        intro us' hb w _
        simp only [execOp, Sem.run_bind, run_build w t _ _ hb, Result.andThen_ok, Sem.run_pure]
      split at hq
      · rename_i fs hfs
        rw [hfs] at hty
        obtain ⟨gs, rfl, hgs⟩ := fits_struct hty
        split at hq
        · rename_i pl hpl
          split at hq
          · rename_i cs hcs
            rw [← hgs] at hpl
            have hpl := places_sound h hpl
            obtain ⟨us', h1, h2⟩ := layAll_sound h (pv := (pl.toArray[·]?)) (fun i x hi => by rw [nth_eq] at hi; simpa using hi) hcs hm0
            refine ⟨_, .v (.agg cs), hyield (us' := us') ?_, ⟨us', h2, rfl⟩, hq⟩
            simp only [Program.built, hit, hu, hzv, hpl]
            simpa using h1
          · exact hq.elim
        · exact hq.elim
      · rename_i m el hel
        rw [hel] at hty
        have := fits_array hty
        subst this
        split at hq
        · rename_i te hte
          obtain ⟨_, ie, _, hie, _, hsz, _⟩ := TE.und (Tab.get h.tab hte)
          split at hq
          · rename_i cs hcs
            obtain ⟨us', h1, h2⟩ := layAll_sound h (pv := fun i => some (i * te.size, te.size)) (fun i x hi => hi) hcs hm0
            refine ⟨_, .v (.agg cs), hyield (us' := us') ?_, ⟨us', h2, rfl⟩, hq⟩
            simp only [Program.built, hit, hu, hzv, hie, hsz]
            simpa using h1
          · exact hq.elim
        · exact hq.elim
      · exact hq.elim
  · exact hq.elim

theorem call_sound (h : Sit Pr T S K fr st a w) {c : Call} : QSound Pr S K a W ⟨dst, .call c, ty, pos, af, gd⟩ (qop alg T st (.call c)) := by
  obtain ⟨callee, args, tys⟩ := c
  simp only [qop]
  split
  · rename_i x hargs
    have hargs : args = #[x] := by apply Array.ext'; simpa using hargs
    subst hargs
    split
    · rename_i v t hv htys
      have htys : tys = #[t] := by apply Array.ext'; simpa using htys
      subst htys
      have hm := h.one hv
      generalize hx : a.eval x = xv at hm
      split
      · rename_i e he
        obtain ⟨ds, it, hu, hit, hty, -⟩ := TE.und (Tab.get h.tab he)
        split
        · rename_i n hn
          have sl : ∀ {el : Nat} {ao : Option Addr} {m cap : Nat}, e.ty = .slice el → xv = .slice ao m cap → Yields Pr a W ⟨dst, .call ⟨.builtin .len, #[x], #[t]⟩, ty, pos, af, gd⟩ (.int .i64 (m : Int)) := by
            intro el ao m cap hel hv
            rw [hel] at hty
            have := fits_slice hty
            subst this
            simp [Yields, execOp, resolve, invoke, builtin, hx, hv, Builtin.len_, run_underlying hu, goInt]
          unfold lenQ at hn
          split at hn
          · rename_i l hety
            cases hn
            rw [hety] at hty
            have := fits_str hty
            subst this
            cases hm
            exact okp_sound (v := .int .i64 (l.length : Int)) (by simp [Yields, execOp, resolve, invoke, builtin, hx, Builtin.len_, run_underlying hu, goInt]) (.int _ _)
          · rename_i hety; cases hn; cases hm; exact okp_sound (sl hety rfl) (.int _ _)
          · rename_i u k lo hi hety
            cases hn
            obtain ⟨ao, n', cap, _, h0, h00, hs⟩ := hm
            obtain ⟨ao', cap', rfl, h1, _⟩ := hs
            have hy := sl hety rfl
            have e1 : ((hi.toNat - lo.toNat : Nat) : Int) = hi - lo := by omega
            rw [e1] at hy
            exact okp_sound hy (.int _ _)
          · rename_i hety; cases hn; cases hm; exact okp_sound (sl hety rfl) (.int _ _)
          · rename_i hety
            split at hn
            · rename_i ho
              cases hn
              rw [nth_eq] at ho
              obtain ⟨ao, cap, vs, hk, _⟩ := h.row ho
              have hb := hm.1
              rw [base_get hk] at hb
              cases hb
              exact okp_sound (sl hety rfl) (.int _ _)
            · cases hn
          · cases hn
        · exact no_sound
      · exact no_sound
    · exact no_sound
  · rename_i x hargs
    have hargs : args = #[x] := by apply Array.ext'; simpa using hargs
    subst hargs
    split
    · rename_i t hv htys
      have htys : tys = #[t] := by apply Array.ext'; simpa using htys
      subst htys
      have hm := h.one hv
      generalize hx : a.eval x = xv at hm
      split
      · rename_i el e1 e2 e3 e4 he
        obtain ⟨ds, it, hu, hit, hty, -⟩ := TE.und (Tab.get h.tab he)
        have := fits_slice hty
        subst this
        have hm : xv = .slice none 0 0 := hm
        subst hm
        exact okp_sound (v := .int .i64 0) (by simp [Yields, execOp, resolve, invoke, builtin, hx, Builtin.cap_, run_underlying hu, goInt]) (.int _ _)
      · exact no_sound
    · exact no_sound
  · rename_i x y hargs
    have hargs : args = #[x, y] := by apply Array.ext'; simpa using hargs
    subst hargs
    split
    · rename_i k m k' n h1 h2
      have hm1 := h.one h1
      have hm2 := h.one h2
      generalize hx : a.eval x = xv at hm1
      generalize hy : a.eval y = yv at hm2
      cases hm1; cases hm2
      split
      · rename_i hk
        have := kindB_eq hk
        subst this
        refine okp_sound (v := .int k (alg.imin m n)) ?_ (.int _ _)
        simp [Yields, execOp, resolve, invoke, builtin, hx, hy, Builtin.min_, Builtin.min2, alg_imin]
        split <;> split <;> omega
      · exact no_sound
    · exact no_sound
  · rename_i x y hargs
    have hargs : args = #[x, y] := by apply Array.ext'; simpa using hargs
    subst hargs
    split
    · rename_i k m k' n h1 h2
      have hm1 := h.one h1
      have hm2 := h.one h2
      generalize hx : a.eval x = xv at hm1
      generalize hy : a.eval y = yv at hm2
      cases hm1; cases hm2
      split
      · rename_i hk
        have := kindB_eq hk
        subst this
        refine okp_sound (v := .int k (alg.imax m n)) ?_ (.int _ _)
        simp [Yields, execOp, resolve, invoke, builtin, hx, hy, Builtin.max_, Builtin.max2, alg_imax]
        split <;> split <;> omega
      · exact no_sound
    · exact no_sound
  · exact no_sound

/-- Each reading operation. -/
def needsW : Op → Bool
  | .load .. | .convert .. => true
  | _ => false
theorem qop_sound (h : Sit Pr T S K fr st a w) (o : Oper) (hW : needsW o.op = true → Cls S K W) : QSound Pr S K a W o (qop alg T st o.op) := by
  obtain ⟨dst, op, ty, pos, af, gd⟩ := o
  cases op with
  | move x => exact move_sound h
  | assign x => exact assign_sound h
  | pick c x y => exact pick_sound h
  | load t x => exact load_sound h (hW rfl)
  | nilCheck x => exact nilCheck_sound h
  | binOp op t x y u => exact binOp_sound h
  | typeAssert x xt t ok => exact assert_sound h
  | unOp op t x => exact unOp_sound h
  | convert s d x => exact convert_sound h (hW rfl)
  | makeInterface t x => exact makeInterface_sound h
  | slice t x lo hi mx => cases mx with
    | none => exact slice_sound h
    | some m => cases lo with
      | some _ => cases hi <;> exact no_sound
      | none => cases hi with
        | none => exact no_sound
        | some _ => exact slice3_sound h
  | fieldAddr t x f => exact fieldAddr_sound h
  | field t x f => exact field_sound h
  | indexAddr t x i => exact indexAddr_sound h
  | index t x i => exact index_sound h
  | extract x i => exact extract_sound h
  | build t ps => exact build_sound h
  | call c => exact call_sound h
  | _ => exact no_sound
end
end Go.Ab
