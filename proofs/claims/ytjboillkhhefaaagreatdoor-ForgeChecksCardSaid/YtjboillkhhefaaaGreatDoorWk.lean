/- The anchor of the statements on package forge. -/
import Derived.Test.YtjboillkhhefaaaGreatDoorRt
import Derived.Test.YtjboillkhhefaaaGreatDoorFgg
set_option linter.unusedVariables false
namespace Go.Proofs.YtjboillkhhefaaaGreatDoor
open Go.RowKit

def keyA : ByteArray := ⟨#[97, 97, 97, 97, 97, 97, 97, 97]⟩
def keyB : ByteArray := ⟨#[98, 98, 98, 98, 98, 98, 98, 98]⟩
theorem tags_differ : tagOf keyA keyB (dataText 1 5 8 ⟨#[120]⟩) ≠ tagOf keyA keyB (dataText 0 5 8 ⟨#[120]⟩) := by decide +kernel
theorem tagOf_size (a b text : ByteArray) (h : a.size = 8) : (tagOf a b text).size = 32 := by
  unfold tagOf
  rw [if_neg (by omega), macOf_size]
theorem keyPairAB : KeyPair keyA keyB := .inl ⟨rfl, rfl⟩
theorem flat3_multis (a b c : MultiV) : [a, b, c].flatMap (fun m => m.cells.toList) = (flat3 a b c).toList := rfl
end Go.Proofs.YtjboillkhhefaaaGreatDoor
