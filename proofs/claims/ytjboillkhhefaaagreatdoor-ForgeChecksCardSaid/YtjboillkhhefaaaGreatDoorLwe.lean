/- The statement ForgeChecks, its tied card: whatever keys, side, options and bytes it gets, ForgeChecks answers true and its input reads as it did. -/
import Derived.Test.YtjboillkhhefaaaGreatDoorLwd
import Derived.Test.YtjboillkhhefaaaGreatDoorCards
import Derived.Test.YtjboillkhhefaaaGreatDoorTie
import Derived.SevenTiedAt
namespace Go.Proofs.YtjboillkhhefaaaGreatDoor
open Go

theorem checks_card : Rows.ForgeChecksCardSaid :=
  Claim7.holds_tied_plain_at .later [] [.handle] true (true, "78d8e8b32ff1c3258da19b190bd5d17b82b9046438c362e3a41b5a6e0e45f64b") true
    checks_holds (fun _ h => by cases h) (by kernel_rfl) (fun _ h => by cases h) forgeChecks_row_tie rfl ⟨rfl, rfl⟩ (by kernel_rfl) rfl
    (fun f fn hf hfn => by
      obtain rfl : f = 3 := Option.some.inj ((show Tryz.prog.funcNamed "anabranch/anabranchlaw40.ForgeChecks" = some 3 by kernel_rfl).symm.trans hf) |>.symm
      obtain rfl : fn = Tryz.f3 := (Option.some.inj (Tryz.func3.symm.trans hfn)).symm
      exact ⟨by kernel_rfl, fun j t ht => by
        rw [Tryz.params3] at ht
        have h3 : t = 22 ∨ t = 4 ∨ t = 23 ∨ t = 9 := by
          rcases j with _ | _ | _ | _ | j <;> simp at ht <;> simp [ht]
        rcases h3 with rfl | rfl | rfl | rfl
        · exact (show Tryz.prog.wantsStandIn 22 = false by kernel_rfl)
        · exact (show Tryz.prog.wantsStandIn 4 = false by kernel_rfl)
        · exact (show Tryz.prog.wantsStandIn 23 = false by kernel_rfl)
        · exact (show Tryz.prog.wantsStandIn 9 = false by kernel_rfl)⟩)
    (by kernel_rfl)
#print axioms checks_card
end Go.Proofs.YtjboillkhhefaaaGreatDoor
