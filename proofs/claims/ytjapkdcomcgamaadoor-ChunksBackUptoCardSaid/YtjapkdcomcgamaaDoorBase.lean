/- Contracts of functions that all layers use. -/
import Derived.Test.YtjapkdcomcgamaaDoorFnd
set_option linter.all false
namespace Go.Proofs.YtjapkdcomcgamaaDoor
open Go Go.Sep Go.Ab
set_option maxRecDepth 100000

theorem clone_ (l : Str) (hneed : l.length ≤ 100000000) : Spc Tryd.prog 70 [.v (.one (.p (.list .byte l)))] [] (.ret (.v (.one (.row 0)))) [.row .byte 5 l] := by
  refine spcG tab_ok mixed Tryd.func70 (by kernel_rfl) { keep := some [0, 2] } [] (by kernel_rfl) ?_
  intro I X hI hX
  refine ev_rule (let y0 := I.few (I.add (I.len (α := UInt8) ([] : List UInt8)) (I.len (α := UInt8) l)) 140737488355328; .br (I.ieq (I.len (α := UInt8) l) 0) (.both (.fin (.ret (.v (.one (.row 0)))) [(.row .byte 5 ([] : List UInt8))]) (.need y0 (.fin (.ret (.v (.one (.row 0)))) [(.row .byte 5 (I.app (α := UInt8) ([] : List UInt8) l))]))) (.need y0 (.fin (.ret (.v (.one (.row 0)))) [(.row .byte 5 (I.app (α := UInt8) ([] : List UInt8) l))]))) (by kernel_rfl) ?_
  simp only [inst_need, inst_br, inst_both, inst_fin, inst_qed, inst_stop, inst_code]
  subst hI
  dsimp only [alg]
  have h2 : ((([] : Str).length : Nat) : Int) + ((l.length : Nat) : Int) ≤ 140737488355328 := by simp; omega
  refine ⟨fun h => ⟨⟨trivial, ?_⟩, h2, trivial, rfl⟩, fun h => ⟨h2, trivial, rfl⟩⟩
  have : l = [] := List.eq_nil_of_length_eq_zero (by have := eq_of_beq h; omega)
  subst this; rfl
def clone__c (I : Alg) (args : List D) (hp : List HO) : Option CT := match args, hp with
  | [.v (.one (.p (.list .byte l)))], [] => (fun (l : Str) => (some (.one ⟨I.hid (l.length ≤ 100000000), (.ret (.v (.one (.row 0)))), [.row .byte 5 l]⟩) : Option CT)) l
  | _, _ => none
theorem clone__g : GoodC Tryd.prog 70 (clone__c alg) := by
  intro args hp r h
  unfold clone__c at h
  split at h
  · cases h; exact fun hn => clone_ _ hn
  · cases h
def clone__k : Know Tryd.prog := ⟨70, clone__c, clone__g⟩
def clone__l : Know Tryd.prog := ⟨70, fun I => lendC I (clone__c I), lendC_good clone__g⟩

theorem sameBytes_ (x y : Str) : Spc Tryd.prog 40 [.v (.one (.p (.list .byte x))), .v (.one (.p (.list .byte y)))] [] (.ret (.v (.one (.p (.bool (x == y)))))) [] := by
  refine spcG tab_ok mixed Tryd.func40 (by kernel_rfl) { keep := some [0, 1, 4] } [] (by kernel_rfl) ?_
  intro I X hI hX
  refine ev_rule (.fin (.ret (.v (.one (.p (.bool (I.seq x y)))))) []) (by kernel_rfl) ?_
  simp only [inst_need, inst_br, inst_both, inst_fin, inst_qed, inst_stop, inst_code]
  subst hI
  exact ⟨rfl, trivial⟩
def sameBytes__c (I : Alg) (args : List D) (hp : List HO) : Option CT := match args, hp with
  | [.v (.one (.p (.list .byte x))), .v (.one (.p (.list .byte y)))], [] => (fun (x y : Str) => (some (.one ⟨I.hid (True), (.ret (.v (.one (.p (.bool (I.hid (x == y))))))), []⟩) : Option CT)) x y
  | _, _ => none
theorem sameBytes__g : GoodC Tryd.prog 40 (sameBytes__c alg) := by
  intro args hp r h
  unfold sameBytes__c at h
  split at h
  · cases h; exact fun hn => sameBytes_ _ _
  · cases h
def sameBytes__k : Know Tryd.prog := ⟨40, sameBytes__c, sameBytes__g⟩
def sameBytes__l : Know Tryd.prog := ⟨40, fun I => lendC I (sameBytes__c I), lendC_good sameBytes__g⟩
end Go.Proofs.YtjapkdcomcgamaaDoor
