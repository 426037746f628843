/- An abstract machine for the walks (part 15): a law, out of its contract. -/
import Derived.Test.YtjapkdcomcgamaaDoorAbP
import Derived.Test.YtjapkdcomcgamaaDoorData
set_option linter.all false
namespace Go.Ab
open Go Go.Sep Go.RowKit
variable [Facts]

/-- The world as it is when all begins: none of it ever turns. -/
def Holds (W : World) : Prop := ∀ w : World, (∀ (k : Nat) (o : Obj), W.heap[k]? = some o → w.heap[k]? = some o) → Facts.p w
def frzW (W : World) (hF : Holds W) : Frz := ⟨fun k => W.heap[k]?, W.os, W.tape, W.output, fun w hw => hF w hw.2.2.2⟩
/-- A table stays. -/
theorem tabIs_of {Pr : Program} {W w : World} (h : ∀ (k : Nat) (o : Obj), W.heap[k]? = some o → w.heap[k]? = some o) {name : String} {cs : Array Value} (hv : W.var? Pr name = some cs) : w.var? Pr name = some cs := by
  unfold World.var? at hv ⊢
  cases hg : Pr.globalNamed name with
  | none => rw [hg] at hv; cases hv
  | some g =>
    rw [hg] at hv
    simp only [Option.bind_some] at hv ⊢
    split at hv
    · rename_i cs' t f hc; rw [h _ _ hc]; exact hv
    · cases hv
theorem frzW_at (W : World) (hF : Holds W) : At W [frzC (frzW W hF)] :=
  ⟨fun k => (W.heap[k]?).isSome = true, fun k => (W.heap[k]?).isSome = true, fun _ => False, fun k => by simp, fun _ _ h => h, ⟨fun _ => Iff.rfl, rfl, rfl, rfl, fun _ _ h => h⟩, fun _ h => h⟩
theorem frzW_below {W w : World} {hF : Holds W} (h : (frzW W hF).on w) : Below W.heap.size W w := by
  obtain ⟨h1, h2, h3, h4⟩ := h
  have hb : ∀ k, k < W.heap.size → w.heap[k]? = W.heap[k]? := fun k hk => by
    have : W.heap[k]? = some W.heap[k] := by simp [hk]
    rw [h4 k _ this, this]
  refine ⟨h1, h2, h3, ?_, hb⟩
  rcases Nat.lt_or_ge w.heap.size W.heap.size with hlt | hge
  · have := hb w.heap.size hlt
    simp at this
    omega
  · exact hge
theorem frzW_rd {W : World} {hF : Holds W} {size : Nat} {v : Value} {n : Nat} {cs : List Value} (h : Rd W size v n cs) : RdS (frzW W hF) size v n cs := by
  intro w hw
  obtain ⟨ao, cap, e, h1, h2, h4, h3, hc⟩ := h
  refine ⟨ao, cap, e, h1, h2, h4, h3, fun j u hu => ?_⟩
  obtain ⟨hs, hcell⟩ := hc j u hu
  exact ⟨hs, ((frzW_below hw).cell (block_lt hcell)).trans hcell⟩

/-- A law. -/
theorem Spc.law {Pr : Program} {f : Nat} {args : List D} {hp' : List HO} {W : World} {hF : Holds W} {vs : List Value} (h : Spc Pr f args [] (.ret (.v (.one (.p (.bool true))))) hp') (ha : MDs (frzW W hF) [] args vs) :
    Calls Pr f vs.toArray W fun e w' => e = .returned (.bool true) ∧ Below W.heap.size W w' := by
  refine (h.2 (frzW W hF) [] [] W vs ⟨rfl, fun i o c h => by simp at h⟩ ha (frzW_at W hF)).mono fun e w' he => ?_
  obtain ⟨S', K', hle, _, _, hat, ho⟩ := he
  refine ⟨?_, frzW_below ((At.frz hat).mono hle)⟩
  cases e with
  | returned v => cases ho; rfl
  | panicked ch => exact ho.elim
  | outgrown => exact ho.elim

/-- Slices that came in. -/
theorem in_list {W : World} {hF : Holds W} {v : Value} {u : U} {R : Sep.Rel u.den} (hR : ∀ cs x, R W cs x → MPs (frzW W hF) (enc alg u x) cs) {xs : List u.den} (h : RSl u.size R W [v] xs) : MD (frzW W hF) [] (.v (.one (.p (.list u xs)))) v := by
  obtain ⟨v', vs, e, hr, hx⟩ := h
  cases e
  have hlen := hr.len
  obtain ⟨ao, cap, rfl, _⟩ := id hr
  refine MP.list u xs ao cap vs hlen (frzW_rd hr) fun i x j p v hi hj hv => ?_
  have hm := hR _ _ (hx i x hi)
  obtain ⟨v', h1, h2⟩ := hm.get hj
  rw [List.getElem?_take] at h1
  split at h1
  · rw [List.getElem?_drop, hv] at h1
    cases h1; exact h2
  · cases h1
theorem in_byte {W : World} {hF : Holds W} {cs : List Value} {x : UInt8} (h : RByte W cs x) : MPs (frzW W hF) (enc alg .byte x) cs := by
  rw [show cs = [bv x] from h]; exact ⟨.int _ _, trivial⟩
theorem in_int {W : World} {hF : Holds W} {cs : List Value} {x : Int} (h : RInt .i64 W cs x) : MPs (frzW W hF) (enc alg .int x) cs := by
  rw [h.1]; exact ⟨.int _ _, trivial⟩
theorem in_str {W : World} {hF : Holds W} {cs : List Value} {x : Str} (h : RStr W cs x) : MPs (frzW W hF) (enc alg .str x) cs := by
  rw [h.1]; exact ⟨.str _ h.2, trivial⟩
theorem in_bytes {W : World} {hF : Holds W} {v : Value} {bs : List UInt8} (h : RSl 1 RByte W [v] bs) : MD (frzW W hF) [] (.v (.one (.p (.list .byte bs)))) v := in_list (u := .byte) (fun _ _ => in_byte) h
theorem in_ints {W : World} {hF : Holds W} {v : Value} {xs : List Int} (h : RSl 1 (RInt .i64) W [v] xs) : MD (frzW W hF) [] (.v (.one (.p (.list .int xs)))) v := in_list (u := .int) (fun _ _ => in_int) h
theorem in_strs {W : World} {hF : Holds W} {v : Value} {xs : List Str} (h : RSl 1 RStr W [v] xs) : MD (frzW W hF) [] (.v (.one (.p (.list .str xs)))) v := in_list (u := .str) (fun _ _ => in_str) h
end Go.Ab
