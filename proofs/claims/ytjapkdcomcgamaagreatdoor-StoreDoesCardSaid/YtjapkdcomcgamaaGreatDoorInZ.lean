/- What came in, within the row's own reach. -/
import Derived.Test.YtjapkdcomcgamaaGreatDoorAbP
import Derived.Test.YtjapkdcomcgamaaGreatDoorData
import Derived.WideShapes
import Derived.ChangeArms
import Derived.SizedLaws
set_option linter.all false
namespace Go.Ab
open Go Go.Sep Go.RowKit
variable [Facts]

/-- The world as it is when all begins: none of it ever turns. -/
def Holds (W : World) : Prop := ∀ w : World, (∀ (k : Nat) (o : Obj), W.heap[k]? = some o → w.heap[k]? = some o) → Facts.p w
def frzW (W : World) (hF : Holds W) : Frz := ⟨fun k => W.heap[k]?, W.os, W.tape, W.output, fun w hw => hF w hw.2.2.2⟩
/-- A table stays. -/
theorem tabIs_of {Pr : Program} {W w : World} (h : ∀ (k : Nat) (o : Obj), W.heap[k]? = some o → w.heap[k]? = some o) {name : String} {cs : Array Value} (hv : W.var? Pr name = some cs) : w.var? Pr name = some cs := by
  unfold World.var? at hv ⊢
  cases hg : Pr.globalNamed name with
  | none => rw [hg] at hv; cases hv
  | some g =>
    rw [hg] at hv
    simp only [Option.bind_some] at hv ⊢
    split at hv
    · rename_i cs' t f hc; rw [h _ _ hc]; exact hv
    · cases hv
theorem frzW_at (W : World) (hF : Holds W) : At W [frzC (frzW W hF)] :=
  ⟨fun k => (W.heap[k]?).isSome = true, fun k => (W.heap[k]?).isSome = true, fun _ => False, fun k => by simp, fun _ _ h => h, ⟨fun _ => Iff.rfl, rfl, rfl, rfl, fun _ _ h => h⟩, fun _ h => h⟩
theorem frzW_below {W w : World} {hF : Holds W} (h : (frzW W hF).on w) : Below W.heap.size W w := by
  obtain ⟨h1, h2, h3, h4⟩ := h
  have hb : ∀ k, k < W.heap.size → w.heap[k]? = W.heap[k]? := fun k hk => by
    have : W.heap[k]? = some W.heap[k] := by simp [hk]
    rw [h4 k _ this, this]
  refine ⟨h1, h2, h3, ?_, hb⟩
  rcases Nat.lt_or_ge w.heap.size W.heap.size with hlt | hge
  · have := hb w.heap.size hlt
    simp at this
    omega
  · exact hge
theorem frzW_rd {W : World} {hF : Holds W} {size : Nat} {v : Value} {n : Nat} {cs : List Value} (h : Rd W size v n cs) : RdS (frzW W hF) size v n cs := by
  intro w hw
  obtain ⟨ao, cap, e, h1, h2, h4, h3, hc⟩ := h
  refine ⟨ao, cap, e, h1, h2, h4, h3, fun j u hu => ?_⟩
  obtain ⟨hs, hcell⟩ := hc j u hu
  exact ⟨hs, ((frzW_below hw).cell (block_lt hcell)).trans hcell⟩

/-- A law. -/
theorem Spc.law {Pr : Program} {f : Nat} {args : List D} {hp' : List HO} {W : World} {hF : Holds W} {vs : List Value} (h : Spc Pr f args [] (.ret (.v (.one (.p (.bool true))))) hp') (ha : MDs (frzW W hF) [] args vs) :
    Calls Pr f vs.toArray W fun e w' => e = .returned (.bool true) ∧ Below W.heap.size W w' := by
  refine (h.2 (frzW W hF) [] [] W vs ⟨rfl, fun i o c h => by simp at h⟩ ha (frzW_at W hF)).mono fun e w' he => ?_
  obtain ⟨S', K', hle, _, _, hat, ho⟩ := he
  refine ⟨?_, frzW_below ((At.frz hat).mono hle)⟩
  cases e with
  | returned v => cases ho; rfl
  | panicked ch => exact ho.elim
  | outgrown => exact ho.elim

/-- Slices that came in. -/
theorem in_list {W : World} {hF : Holds W} {v : Value} {u : U} {R : Sep.Rel u.den} (hR : ∀ cs x, R W cs x → MPs (frzW W hF) (enc alg u x) cs) {xs : List u.den} (h : RSl u.size R W [v] xs) : MD (frzW W hF) [] (.v (.one (.p (.list u xs)))) v := by
  obtain ⟨v', vs, e, hr, hx⟩ := h
  cases e
  have hlen := hr.len
  obtain ⟨ao, cap, rfl, _⟩ := id hr
  refine MP.list u xs ao cap vs hlen (frzW_rd hr) fun i x j p v hi hj hv => ?_
  have hm := hR _ _ (hx i x hi)
  obtain ⟨v', h1, h2⟩ := hm.get hj
  rw [List.getElem?_take] at h1
  split at h1
  · rw [List.getElem?_drop, hv] at h1
    cases h1; exact h2
  · cases h1
theorem in_byte {W : World} {hF : Holds W} {cs : List Value} {x : UInt8} (h : RByte W cs x) : MPs (frzW W hF) (enc alg .byte x) cs := by
  rw [show cs = [bv x] from h]; exact ⟨.int _ _, trivial⟩
theorem in_int {W : World} {hF : Holds W} {cs : List Value} {x : Int} (h : RInt .i64 W cs x) : MPs (frzW W hF) (enc alg .int x) cs := by
  rw [h.1]; exact ⟨.int _ _, trivial⟩
theorem in_str {W : World} {hF : Holds W} {cs : List Value} {x : Str} (h : RStr W cs x) : MPs (frzW W hF) (enc alg .str x) cs := by
  rw [h.1]; exact ⟨.str _ h.2, trivial⟩
theorem in_bytes {W : World} {hF : Holds W} {v : Value} {bs : List UInt8} (h : RSl 1 RByte W [v] bs) : MD (frzW W hF) [] (.v (.one (.p (.list .byte bs)))) v := in_list (u := .byte) (fun _ _ => in_byte) h
theorem in_ints {W : World} {hF : Holds W} {v : Value} {xs : List Int} (h : RSl 1 (RInt .i64) W [v] xs) : MD (frzW W hF) [] (.v (.one (.p (.list .int xs)))) v := in_list (u := .int) (fun _ _ => in_int) h
theorem in_strs {W : World} {hF : Holds W} {v : Value} {xs : List Str} (h : RSl 1 RStr W [v] xs) : MD (frzW W hF) [] (.v (.one (.p (.list .str xs)))) v := in_list (u := .str) (fun _ _ => in_str) h
end Go.Ab
namespace Go.Ab
open Go Go.Sep
variable [Facts]

def wfI (n : Int) : Prop := -9223372036854775808 ≤ n ∧ n ≤ 9223372036854775807
theorem wfI_of {n : Int} (h : (Lit.int .i64 n).wf = true) : wfI n := by
  simp only [Lit.wf, Bool.and_eq_true, decide_eq_true_eq] at h
  have h1 : IntKind.i64.min = -9223372036854775808 := by decide
  have h2 : IntKind.i64.max = 9223372036854775807 := by decide
  rw [h1, h2] at h; exact h
theorem wfY_of {n : Int} (h : (Lit.int .u8 n).wf = true) : 0 ≤ n ∧ n ≤ 255 := by
  simp only [Lit.wf, Bool.and_eq_true, decide_eq_true_eq] at h
  have h1 : IntKind.u8.min = 0 := by decide
  have h2 : IntKind.u8.max = 255 := by decide
  rw [h1, h2] at h; exact h
/-- No longer than the reach. -/
def wfS {α : Type} (s : List α) : Prop := s.length ≤ 140737488355328
def wfFld (f : Fld) : Prop := wfS f.name ∧ wfS f.value
def wfHd (h : Hd) : Prop := wfS h.method ∧ wfS h.target ∧ wfI h.minor ∧ (wfS h.fields ∧ ∀ f ∈ h.fields, wfFld f) ∧ wfI h.length
def wfPrt (p : Prt) : Prop := wfS p.name ∧ wfS p.file ∧ wfS p.type ∧ wfS p.bytes
def wfZ : (u : U) → u.den → Prop
  | .byte, _ => True
  | .int, n => wfI n
  | .str, (s : Str) => wfS s
  | .fld, f => wfFld f
  | .bytes, (b : Str) => wfS b
  | .hd, h => wfHd h
  | .prt, p => wfPrt p
  | .evt, (e : Evt) => wfI e.kind ∧ wfHd e.head ∧ wfS e.bytes ∧ wfPrt e.part ∧ wfI e.code
  | .upl, (x : Upl) => wfI x.id ∧ wfI x.size ∧ wfS x.note ∧ wfS x.bytes ∧ wfI x.sent
  | .ent, (e : Ent) => wfI e.kind ∧ wfI e.id ∧ wfI e.n ∧ wfS e.text
  | .stp, (e : Stp) => wfI e.kind ∧ wfI e.conn ∧ wfI e.n ∧ wfS e.bytes
  | .ask, (a : Ask) => wfHd a.h ∧ wfS a.body
  | .cal, (c : Cal) => wfI c.conn ∧ wfS c.b
  | .lst, (e : Lst) => wfI e.op ∧ wfI e.n ∧ wfS e.b
  | .sst, (e : Sst) => wfI e.op ∧ wfI e.id ∧ wfI e.n ∧ wfS e.text
  | .rpl, (r : Rpl) => wfI r.status ∧ (wfS r.fields ∧ ∀ f ∈ r.fields, wfFld f) ∧ wfS r.body
  | .med, (m : Med) => wfS m.word ∧ (wfS m.params ∧ ∀ f ∈ m.params, wfFld f)
  | _, _ => True

abbrev Small {H : Type} (Pr : Program) (t : TypeId) (d : DataW H) : Prop := (d.weights Pr t).all (· ≤ reachBytes) = true
section
variable {H : Type} {hsh : TypeId × Value → H} {Pr : Program} {w : World} {hF : Holds w} {base : Nat} {spare : Nat → Bool} {held : Bool}

/-- Every reading at type t that is within reach is one by Q. -/
def OpensP (hsh : TypeId × Value → H) (Pr : Program) (w : World) (hF : Holds w) (base : Nat) (spare : Nat → Bool) (held : Bool) (t : TypeId) (Q : List P → Prop) : Prop :=
  ∀ fuel cs y, DataW.trod hsh Pr w base spare held fuel t cs = some y → Small Pr t y.1 → ∃ ps, MPs (frzW w hF) ps cs ∧ Q ps
theorem OpensP.mono {t : TypeId} {Q Q' : List P → Prop} (h : OpensP hsh Pr w hF base spare held t Q) (hq : ∀ ps, Q ps → Q' ps) : OpensP hsh Pr w hF base spare held t Q' := by
  intro fuel cs y hy hs
  obtain ⟨ps, h1, h2⟩ := h fuel cs y hy hs
  exact ⟨ps, h1, hq _ h2⟩
def QU (u : U) (ps : List P) : Prop := ∃ x : u.den, ps = enc alg u x ∧ wfZ u x
def QB (ps : List P) : Prop := ∃ b, ps = [.bool b]
def QL (u : U) (ps : List P) : Prop := ∃ l : List u.den, ps = [.list u l] ∧ wfS l ∧ ∀ x ∈ l, wfZ u x

theorem op_int {t : TypeId} (ht : Pr.underlying t = some (.int .i64)) : OpensP hsh Pr w hF base spare held t (QU .int) := by
  intro fuel cs y h _
  obtain ⟨n, rfl, hn⟩ := opens_int ht fuel cs y h
  exact ⟨[.int .i64 n], ⟨.int _ _, trivial⟩, n, rfl, wfI_of hn⟩
theorem op_bool {t : TypeId} (ht : Pr.underlying t = some .bool) : OpensP hsh Pr w hF base spare held t QB := by
  intro fuel cs y h _
  obtain ⟨b, rfl⟩ := opens_bool ht fuel cs y h
  exact ⟨[.bool b], ⟨.bool _, trivial⟩, b, rfl⟩
theorem op_byte {t : TypeId} (ht : Pr.underlying t = some (.int .u8)) : OpensP hsh Pr w hF base spare held t (QU .byte) := by
  intro fuel cs y h _
  obtain ⟨c, hc⟩ := opens_byte ht fuel cs y h
  exact ⟨enc alg .byte c, in_byte hc, c, rfl, trivial⟩
theorem reach_le {n : Nat} (h : n ≤ reachBytes) : n ≤ 140737488355328 := Nat.le_trans h (by decide)
theorem op_str {t : TypeId} (ht : Pr.underlying t = some .string) : OpensP hsh Pr w hF base spare held t (QU .str) := by
  intro fuel cs y h hs
  obtain ⟨s, rfl, hy, hl⟩ := DataW.trod_string ht h
  have e : Sep.S s.data.toList = s := by cases s; rfl
  refine ⟨[.str s.data.toList], ⟨by rw [← e]; exact .str _ (by simpa using hl), trivial⟩, s.data.toList, rfl, ?_⟩
  rw [hy] at hs
  simp only [Small, DataW.weights, List.all_cons, List.all_nil, Bool.and_true, decide_eq_true_eq] at hs
  exact reach_le hs

/-- The elements of a datum. -/
def elemsOf : DataW H → List (DataW H)
  | .slice es _ => es
  | _ => []
theorem slice_elems {α : Type} {t e : TypeId} {size : Nat} {R : Sep.Rel α} (ht : Pr.underlying t = some (.slice e)) (hs : Pr.cellsOf e = size) {fuel : Nat} {cs : List Value} {y : DataW H × List MemPlace}
    (h : DataW.trod hsh Pr w base spare held fuel t cs = some y) (he : ∀ n ci z, z.1 ∈ elemsOf y.1 → DataW.trod hsh Pr w base spare held n e ci = some z → ∃ x, R w ci x) :
    ∃ xs, RSl size R w cs xs ∧ xs.length = (elemsOf y.1).length := by
  rcases DataW.trod_slice ht h with ⟨rfl, rfl⟩ | ⟨a, len, cap, elems, rest, n, _, rfl, rfl, _, hl, hm, hlen, hel, _, _⟩
  · exact ⟨[], ⟨_, [], rfl, ⟨none, 0, rfl, Nat.le_refl _, Nat.zero_le _, fun _ => rfl, by simp, fun j u h => by simp at h⟩, fun i x h => by simp at h⟩, rfl⟩
  · subst hs
    have each : ∀ i, i < len → ∃ ci : List Value, ci.length = Pr.cellsOf e ∧ (∀ j u, ci[j]? = some u → w.cell? ((a.add (i * Pr.cellsOf e)).add j) = some u) ∧ ∃ x, R w ci x := by
      intro i hi
      have h1 := hel i hi
      rw [List.getElem?_eq_getElem (by omega), Option.bind_eq_some_iff] at h1
      obtain ⟨ci, hci, hy⟩ := h1
      obtain ⟨h2, h3⟩ := cells?_get hci
      exact ⟨ci, h2, h3, he n ci _ (List.mem_map_of_mem (List.getElem_mem _)) hy⟩
    have all : ∀ m, m ≤ len → ∃ (vs : List Value) (xs : List α), xs.length = m ∧ vs.length = m * Pr.cellsOf e ∧ (∀ j u, vs[j]? = some u → w.cell? (a.add j) = some u) ∧ ∀ i x, xs[i]? = some x → R w ((vs.drop (i * Pr.cellsOf e)).take (Pr.cellsOf e)) x := by
      intro m
      induction m with
      | zero => intro _; exact ⟨[], [], rfl, by simp, fun j u h => by simp at h, fun i x h => by simp at h⟩
      | succ m ih =>
        intro hm'
        obtain ⟨vs, xs, h1, h2, h3, h4⟩ := ih (by omega)
        obtain ⟨ci, c1, c2, x, c3⟩ := each m (by omega)
        refine ⟨vs ++ ci, xs ++ [x], by simp [h1], by simp [h2, c1, Nat.succ_mul], fun j u hj => ?_, fun i z hi => ?_⟩
        · rcases Nat.lt_or_ge j vs.length with hj1 | hj1
          · rw [List.getElem?_append_left hj1] at hj; exact h3 j u hj
          · rw [List.getElem?_append_right hj1] at hj
            have h5 := c2 _ _ hj
            rw [Addr.add_add, h2, show m * Pr.cellsOf e + (j - m * Pr.cellsOf e) = j by omega] at h5
            exact h5
        · rcases Nat.lt_or_ge i xs.length with hi1 | hi1
          · rw [List.getElem?_append_left hi1] at hi
            have h5 := h4 i z hi
            have h6 : i * Pr.cellsOf e + Pr.cellsOf e ≤ vs.length := by rw [h2, ← Nat.succ_mul]; exact Nat.mul_le_mul_right _ (by omega)
            rw [List.drop_append_of_le_length (by omega), List.take_append_of_le_length (by simp; omega)]
            exact h5
          · rw [List.getElem?_append_right hi1] at hi
            have hi2 : i = m := by
              have := (List.getElem?_eq_some_iff.1 hi).1
              simp at this; omega
            subst hi2
            rw [h1, Nat.sub_self] at hi
            simp at hi
            subst hi
            rw [← h2, List.drop_left, List.take_of_length_le (by omega)]
            exact c3
    obtain ⟨vs, xs, h1, h2, h3, h4⟩ := all len (Nat.le_refl _)
    refine ⟨xs, ⟨_, vs, rfl, ⟨some a, cap, by rw [h1], by omega, hm, (fun h => by cases h), by rw [h1]; exact h2, fun j u hj => ?_⟩, h4⟩, by simp [elemsOf, h1, hlen]⟩
    have hsp : a.spot = none := by
      cases hv : vs with
      | nil => rw [hv] at hj; simp at hj
      | cons u0 r =>
        have := h3 0 u0 (by rw [hv]; rfl)
        rw [show a.add 0 = a by simp [Addr.add]] at this
        exact spot_of this
    exact ⟨⟨a, rfl, hsp⟩, by rw [← add_adr hsp]; exact h3 j u hj⟩
theorem weightsAll_mem {e : TypeId} : ∀ {es : List (DataW H)} {d : DataW H}, d ∈ es → ∀ n ∈ d.weights Pr e, n ∈ DataW.weightsAll Pr e es
  | x :: es, d, hd, n, hn => by
    simp only [DataW.weightsAll, List.mem_append]
    rcases List.mem_cons.1 hd with rfl | hd
    · exact .inl hn
    · exact .inr (weightsAll_mem hd n hn)
theorem small_elem {t e : TypeId} (ht : Pr.underlying t = some (.slice e)) {d z : DataW H} (h : Small Pr t d) (hz : z ∈ elemsOf d) : Small Pr e z := by
  cases d <;> simp only [elemsOf, List.not_mem_nil] at hz
  refine List.all_eq_true.2 fun n hn => List.all_eq_true.1 h n ?_
  simp only [DataW.weights, ht, List.mem_cons, List.mem_append]
  exact .inr (.inl (weightsAll_mem hz n hn))
theorem small_len {t e : TypeId} (ht : Pr.underlying t = some (.slice e)) (hb : Nat.blt 0 (Pr.bytesOf e) = true) {d : DataW H} (h : Small Pr t d) : (elemsOf d).length ≤ 140737488355328 := by
  cases d <;> simp only [elemsOf] <;> try exact Nat.zero_le _
  rename_i es ss
  have h1 := List.all_eq_true.1 h ((es.length + ss.length) * Pr.bytesOf e) (by simp [DataW.weights, ht])
  have hb : 0 < Pr.bytesOf e := by simpa [Nat.blt_eq] using hb
  refine reach_le (Nat.le_trans (Nat.le_trans (Nat.le_add_right _ ss.length) (Nat.le_mul_of_pos_right _ hb)) (by simpa using h1))
theorem op_list {t e : TypeId} {u : U} (ht : Pr.underlying t = some (.slice e)) (hc : Pr.cellsOf e = u.size) (hb : Nat.blt 0 (Pr.bytesOf e) = true) (he : OpensP hsh Pr w hF base spare held e (QU u)) :
    OpensP hsh Pr w hF base spare held t (QL u) := by
  intro fuel cs y h hs
  obtain ⟨l, hl, hlen⟩ := slice_elems (R := fun _ cs (x : u.den) => MPs (frzW w hF) (enc alg u x) cs ∧ wfZ u x) ht hc h (fun n ci z hz ht' => by
    obtain ⟨ps, h1, x, rfl, hx⟩ := he n ci z ht' (small_elem ht hs hz)
    exact ⟨x, h1, hx⟩)
  have hl' := hl
  obtain ⟨v, vs, rfl, _, hx⟩ := hl
  refine ⟨[.list u l], ⟨in_list (fun _ _ h => h.1) hl', trivial⟩, l, rfl, by unfold wfS; rw [hlen]; exact small_len ht hb hs, fun x hm => ?_⟩
  obtain ⟨i, hi⟩ := List.getElem?_of_mem hm
  exact (hx i x hi).2

/-- The fields, one behind the other. -/
def QAll : List (List P → Prop) → List P → Prop
  | [], ps => ps = []
  | Q :: Qs, ps => ∃ a b, ps = a ++ b ∧ Q a ∧ QAll Qs b
def lays (Pr : Program) : Nat → List Field → Nat → Bool
  | o, [], n => Nat.beq o n
  | o, f :: fs, n => Nat.beq f.offset o && lays Pr (o + Pr.cellsOf f.type) fs n
def OpAll (hsh : TypeId × Value → H) (Pr : Program) (w : World) (hF : Holds w) (base : Nat) (spare : Nat → Bool) (held : Bool) : List Field → List (List P → Prop) → Prop
  | [], [] => True
  | f :: fs, Q :: Qs => OpensP hsh Pr w hF base spare held f.type Q ∧ OpAll hsh Pr w hF base spare held fs Qs
  | _, _ => False
theorem OpAll.nil : OpAll hsh Pr w hF base spare held [] [] := trivial
theorem OpAll.cons {f : Field} {fs : List Field} {Q : List P → Prop} {Qs : List (List P → Prop)} (h : OpensP hsh Pr w hF base spare held f.type Q) (k : OpAll hsh Pr w hF base spare held fs Qs) : OpAll hsh Pr w hF base spare held (f :: fs) (Q :: Qs) := ⟨h, k⟩
theorem MPs.append {S : Frz} : ∀ {a b : List P} {x y : List Value}, MPs S a x → MPs S b y → MPs S (a ++ b) (x ++ y)
  | [], _, [], _, _, h => h
  | _ :: _, _, _ :: _, _, h, k => ⟨h.1, MPs.append h.2 k⟩
theorem op_fields {cs : List Value} : ∀ (fs : List Field) (Qs : List (List P → Prop)) (o : Nat), lays Pr o fs cs.length = true → OpAll hsh Pr w hF base spare held fs Qs →
    (∀ f ∈ fs, ∃ n z, DataW.trod hsh Pr w base spare held n f.type ((cs.drop f.offset).take (Pr.cellsOf f.type)) = some z ∧ Small Pr f.type z.1) → ∃ ps, MPs (frzW w hF) ps (cs.drop o) ∧ QAll Qs ps
  | [], [], o, hl, _, _ => by
    have := Nat.eq_of_beq_eq_true hl
    exact ⟨[], by rw [List.drop_of_length_le (by omega)]; trivial, rfl⟩
  | f :: fs, Q :: Qs, o, hl, hq, hz => by
    simp only [lays, Bool.and_eq_true] at hl
    have ho := Nat.eq_of_beq_eq_true hl.1
    obtain ⟨n, z, h1, h2⟩ := hz f (by simp)
    rw [ho] at h1
    obtain ⟨p1, m1, q1⟩ := hq.1 n _ z h1 h2
    obtain ⟨p2, m2, q2⟩ := op_fields fs Qs _ hl.2 hq.2 (fun g hg => hz g (by simp [hg]))
    refine ⟨p1 ++ p2, ?_, p1, p2, rfl, q1, q2⟩
    have := m1.append m2
    rwa [← List.drop_drop, List.take_append_drop] at this
  | [], _ :: _, _, _, h, _ => h.elim
  | _ :: _, [], _, _, h, _ => h.elim
theorem op_struct {t : TypeId} {fs : Array Field} {Qs : List (List P → Prop)} (ht : Pr.underlying t = some (.struct fs)) (hl : lays Pr 0 fs.toList (Pr.cellsOf t) = true) (hq : OpAll hsh Pr w hF base spare held fs.toList Qs) :
    OpensP hsh Pr w hF base spare held t (QAll Qs) := by
  intro fuel cs y h hs
  obtain ⟨xs, n, _, rfl, hcl, hxl, hf⟩ := DataW.trod_struct ht h
  have := op_fields fs.toList Qs 0 (by rw [hcl]; exact hl) hq (fun f hfm => by
    obtain ⟨i, hi⟩ := List.getElem?_of_mem hfm
    have hi' : fs[i]? = some f := by simpa using hi
    have hlt : i < xs.length := by rw [hxl]; exact (Array.getElem?_eq_some_iff.1 hi').1
    refine ⟨n, xs[i], by rw [hf i f hi', List.getElem?_eq_getElem hlt], List.all_eq_true.2 fun k hk => List.all_eq_true.1 hs k ?_⟩
    simp only [DataW.weights, ht]
    exact DataW.weights_mem_each (j := i) (t := f.type) (by simp [hi']) (by simp [hlt]) k hk)
  simpa using this

theorem q_bytes (ps : List P) (h : QL .byte ps) : QU .bytes ps := by
  obtain ⟨l, rfl, hl, _⟩ := h
  exact ⟨l, rfl, hl⟩
theorem q_fld (ps : List P) (h : QAll [QU .str, QU .str] ps) : QU .fld ps := by
  obtain ⟨_, _, rfl, ⟨a, rfl, ha⟩, _, _, rfl, ⟨b, rfl, hb⟩, rfl⟩ := h
  exact ⟨(⟨a, b⟩ : Fld), rfl, ha, hb⟩
theorem q_ent (ps : List P) (h : QAll [QU .int, QU .int, QU .int, QL .byte] ps) : QU .ent ps := by
  obtain ⟨_, _, rfl, ⟨a, rfl, ha⟩, _, _, rfl, ⟨b, rfl, hb⟩, _, _, rfl, ⟨c, rfl, hc⟩, _, _, rfl, ⟨d, rfl, hd, _⟩, rfl⟩ := h
  exact ⟨(⟨a, b, c, d⟩ : Ent), rfl, ha, hb, hc, hd⟩
theorem q_stp (ps : List P) (h : QAll [QU .int, QU .int, QU .int, QL .byte] ps) : QU .stp ps := by
  obtain ⟨_, _, rfl, ⟨a, rfl, ha⟩, _, _, rfl, ⟨b, rfl, hb⟩, _, _, rfl, ⟨c, rfl, hc⟩, _, _, rfl, ⟨d, rfl, hd, _⟩, rfl⟩ := h
  exact ⟨(⟨a, b, c, d⟩ : Stp), rfl, ha, hb, hc, hd⟩
theorem q_sst (ps : List P) (h : QAll [QU .int, QU .int, QU .int, QU .str] ps) : QU .sst ps := by
  obtain ⟨_, _, rfl, ⟨a, rfl, ha⟩, _, _, rfl, ⟨b, rfl, hb⟩, _, _, rfl, ⟨c, rfl, hc⟩, _, _, rfl, ⟨d, rfl, hd⟩, rfl⟩ := h
  exact ⟨(⟨a, b, c, d⟩ : Sst), rfl, ha, hb, hc, hd⟩
theorem q_lst (ps : List P) (h : QAll [QU .int, QU .int, QL .byte] ps) : QU .lst ps := by
  obtain ⟨_, _, rfl, ⟨a, rfl, ha⟩, _, _, rfl, ⟨b, rfl, hb⟩, _, _, rfl, ⟨d, rfl, hd, _⟩, rfl⟩ := h
  exact ⟨(⟨a, b, d⟩ : Lst), rfl, ha, hb, hd⟩
theorem q_cal (ps : List P) (h : QAll [QU .int, QB, QL .byte] ps) : QU .cal ps := by
  obtain ⟨_, _, rfl, ⟨a, rfl, ha⟩, _, _, rfl, ⟨b, rfl⟩, _, _, rfl, ⟨d, rfl, hd, _⟩, rfl⟩ := h
  exact ⟨(⟨a, b, d⟩ : Cal), rfl, ha, hd⟩
theorem q_rpl (ps : List P) (h : QAll [QU .int, QL .fld, QL .byte] ps) : QU .rpl ps := by
  obtain ⟨_, _, rfl, ⟨a, rfl, ha⟩, _, _, rfl, ⟨b, rfl, hb⟩, _, _, rfl, ⟨d, rfl, hd, _⟩, rfl⟩ := h
  exact ⟨(⟨a, b, d⟩ : Rpl), rfl, ha, hb, hd⟩
theorem q_med (ps : List P) (h : QAll [QU .str, QL .fld] ps) : QU .med ps := by
  obtain ⟨_, _, rfl, ⟨a, rfl, ha⟩, _, _, rfl, ⟨b, rfl, hb⟩, rfl⟩ := h
  exact ⟨(⟨a, b⟩ : Med), rfl, ha, hb⟩
theorem q_hd (ps : List P) (h : QAll [QU .str, QU .str, QU .int, QL .fld, QU .int] ps) : QU .hd ps := by
  obtain ⟨_, _, rfl, ⟨a, rfl, ha⟩, _, _, rfl, ⟨b, rfl, hb⟩, _, _, rfl, ⟨c, rfl, hc⟩, _, _, rfl, ⟨d, rfl, hd⟩, _, _, rfl, ⟨e, rfl, he⟩, rfl⟩ := h
  exact ⟨(⟨a, b, c, d, e⟩ : Hd), rfl, ha, hb, hc, hd, he⟩
theorem q_prt (ps : List P) (h : QAll [QU .str, QU .str, QU .str, QL .byte] ps) : QU .prt ps := by
  obtain ⟨_, _, rfl, ⟨a, rfl, ha⟩, _, _, rfl, ⟨b, rfl, hb⟩, _, _, rfl, ⟨c, rfl, hc⟩, _, _, rfl, ⟨d, rfl, hd, _⟩, rfl⟩ := h
  exact ⟨(⟨a, b, c, d⟩ : Prt), rfl, ha, hb, hc, hd⟩
theorem q_ask (ps : List P) (h : QAll [QU .hd, QL .byte] ps) : QU .ask ps := by
  obtain ⟨_, _, rfl, ⟨a, rfl, ha⟩, _, _, rfl, ⟨b, rfl, hb, _⟩, rfl⟩ := h
  exact ⟨(⟨a, b⟩ : Ask), by simp [enc], ha, hb⟩
theorem q_evt (ps : List P) (h : QAll [QU .int, QU .hd, QL .byte, QU .prt, QU .int] ps) : QU .evt ps := by
  obtain ⟨_, _, rfl, ⟨a, rfl, ha⟩, _, _, rfl, ⟨b, rfl, hb⟩, _, _, rfl, ⟨c, rfl, hc, _⟩, _, _, rfl, ⟨d, rfl, hd⟩, _, _, rfl, ⟨e, rfl, he⟩, rfl⟩ := h
  exact ⟨(⟨a, b, c, d, e⟩ : Evt), by simp [enc], ha, hb, hc, hd, he⟩

/-- An argument that is one cell. -/
theorem z_one {t : TypeId} {v : Value} {d : DataW H} {ps : List MemPlace} {Q : List P → Prop} (hr : v.oneCell' = true) (h : DataW.Trod hsh Pr w base spare held t v d ps) (hs : Small Pr t d) (ho : OpensP hsh Pr w hF base spare held t Q) : ∃ qs, MPs (frzW w hF) qs [v] ∧ Q qs := by
  obtain ⟨fuel, hf⟩ := h
  have hc : v.cells.toList = [v] := by cases v <;> first | rfl | cases hr
  rw [hc] at hf
  exact ho fuel _ _ hf hs
theorem z_agg {t : TypeId} {cs : Array Value} {d : DataW H} {ps : List MemPlace} {Q : List P → Prop} (h : DataW.Trod hsh Pr w base spare held t (.agg cs) d ps) (hs : Small Pr t d) (ho : OpensP hsh Pr w hF base spare held t Q) : ∃ qs, MPs (frzW w hF) qs cs.toList ∧ Q qs := by
  obtain ⟨fuel, hf⟩ := h
  exact ho fuel _ _ hf hs
theorem md_agg {S : Frz} {cs : Array Value} {u : U} {x : u.den} (h : MPs S (enc alg u x) cs.toList) : MD S [] (.v (.agg ((enc alg u x).map C.p))) (.agg cs) := ⟨cs.toList, h.mcs, by simp⟩
theorem small_nth {ts : List TypeId} {ds : List (DataW H)} (h : (DataW.weightsEach Pr ts ds).all (· ≤ reachBytes) = true) {j : Nat} {t : TypeId} {d : DataW H} (ht : ts[j]? = some t) (hd : ds[j]? = some d) : Small Pr t d :=
  List.all_eq_true.2 fun n hn => List.all_eq_true.1 h n (DataW.weights_mem_each ht hd n hn)
end
end Go.Ab
