/- slices.Equal of texts, of whole numbers, of instructions: whether the lists are the same. No condition. -/
import Derived.Test.YtmhndfnmdkeiaaaDoorPEqualx
import Derived.Test.YtmhndfnmdkeiaaaDoorSep
namespace Go.Proofs.YtmhndfnmdkeiaaaDoor
open Go.RowKit Go.Proofs.YtmhndfnmdkeiaaaDoorW.PrintWords Go.Proofs.YtmhndfnmdkeiaaaDoorW.PrintLast Go.Proofs.YtmhndfnmdkeiaaaDoorW.PrintMore
open PEqual KitW
namespace EqW
set_option linter.unusedVariables false
set_option linter.unusedSimpArgs false
attribute [local go_sem] max2_int min2_int max_two min_two max_three min_three max_four min_four
instance : DecidableEq S56 := fun a b => decidable_of_iff (a.f0 = b.f0 ∧ a.f1 = b.f1 ∧ a.f2 = b.f2) ⟨fun h => by cases a; cases b; simp_all, fun h => by rw [h]; exact ⟨rfl, rfl, rfl⟩⟩
theorem take_step {α : Type} {a b : List α} {k : Nat} (d : α) (h : a.take k = b.take k) (ha : k < a.length) (hb : k < b.length) (he : a.getD k d = b.getD k d) : a.take (k + 1) = b.take (k + 1) := by
  rw [List.take_succ_eq_append_getElem ha, List.take_succ_eq_append_getElem hb, h]
  rw [List.getD_eq_getElem?_getD, List.getElem?_eq_getElem ha, List.getD_eq_getElem?_getD, List.getElem?_eq_getElem hb] at he
  exact congrArg (fun x => _ ++ [x]) he
theorem toList_ne {a b : ByteArray} (h : a ≠ b) : (a.toList == b.toList) = false := by
  rw [ByteArray.toList_eq, ByteArray.toList_eq, beq_eq_false_iff_ne]
  exact fun e => h (ByteArray.ext (Array.ext' e))
theorem ne_at {α : Type} {a b : List α} {k : Nat} (d : α) (he : a.getD k d ≠ b.getD k d) : a ≠ b := fun h => he (by rw [h])

end EqW
end Go.Proofs.YtmhndfnmdkeiaaaDoor
