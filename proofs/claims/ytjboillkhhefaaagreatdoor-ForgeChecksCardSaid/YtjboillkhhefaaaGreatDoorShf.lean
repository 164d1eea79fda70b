/- The program's sha.Of. -/
import Derived.Test.YtjboillkhhefaaaGreatDoorShe
set_option linter.unusedVariables false
namespace Go.Proofs.YtjboillkhhefaaaGreatDoor
open Go.RowKit

set_option maxHeartbeats 400000 in
theorem shaOfC (s : ByteArray) (w : World) (hs : s.size ≤ 549755813888) :
    Calls Tryz.prog 141 #[.string s] w fun e w' => e = .returned (.string (shaOf s)) ∧ Below w.heap.size w w' := by
  go_enter Tryz.func141, Tryz.ntmps141
  go_wp2_with fail
  refine (shaNew _).mono ?_
  rintro e w1 ⟨b, rfl, hle, hst, hb1⟩
  have HST := Lib.hid (SumAt.zero hst)
  clear hst
  go_wp2_with fail
  refine (shaAdd b ⟨#[]⟩ s _ (by show 0 + s.size ≤ _; omega) HST.out).mono ?_
  rintro e w2 ⟨rfl, hst2, hg2⟩
  rw [empty_app] at hst2
  have HST2 := Lib.hid hst2
  clear hst2
  go_wp2_with fail
  refine (shaSum_ b s _ (by omega) HST2.out).mono ?_
  rintro e w3 ⟨rfl, hb3⟩
  go_wp2_with fail
  go_ret
  have h1 : Below w.heap.size w w2 := hb1.trans (below_grown hg2 hle hb1.size)
  exact ⟨rfl, h1.trans (hb3.mono h1.size)⟩
end Go.Proofs.YtjboillkhhefaaaGreatDoor
