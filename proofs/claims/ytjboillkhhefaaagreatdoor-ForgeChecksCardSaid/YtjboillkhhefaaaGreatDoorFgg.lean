/- The program's package forge: Check. -/
import Derived.Test.YtjboillkhhefaaaGreatDoorFgf
set_option linter.unusedVariables false
namespace Go.Proofs.YtjboillkhhefaaaGreatDoor
open Go.RowKit

/-- The variable of package errors that is read. -/
def ErrVar (w : World) : Prop := w.cell? ⟨0, 0, none⟩ = some (.iface 202 (.agg #[.pointer (some ⟨2, 72, none⟩)]))
theorem ErrVar.below {w w' : World} (h : ErrVar w) {B : Nat} (hb : Below B w w') (hB : w.heap.size ≤ B) : ErrVar w' :=
  (hb.cell (p := ⟨0, 0, none⟩) (Nat.lt_of_lt_of_le (World.block_lt_of_cell? _ _ h) hB)).trans h

set_option maxRecDepth 100000 in
set_option maxHeartbeats 1000000 in
theorem forgeCheck (a b : ByteArray) (side : Int) (pk : PktV) (l : List OptV) (v : Value) (data : ByteArray) (w : World) (hg : ErrVar w) (hk : KeyPair a b) (hl : l.length ≤ 1000) (hv : OptsAt w v l) (hs : ∀ o ∈ l, o.value.size ≤ 1099511627776) (hd : data.size ≤ 1000000) :
    Calls Tryz.prog 11 #[.agg #[.string a, .string b], .int .i64 side, .agg (pktCells pk v data)] w fun e w' => e = .returned (.int .i64 (checkE (allM l) a b side data)) ∧ Below w.heap.size w w' := by
  have HG := Lib.hid hg
  have HK := Lib.hid hk
  have HV := Lib.hid hv
  have HS := Lib.hid hs
  clear hk hv hs hg
  have HCE : Hid (checkE (allM l) a b side data = checkE (allM l) a b side data) := rfl
  obtain ⟨p1, p2, p3, p4, p5, p6, p7, p8, p9, p10, p11⟩ := pk
  simp only [pktCells]
  go_enter Tryz.func11, Tryz.ntmps11
  go_wp2_with (first | (refine wpList_load_blk rfl 31 _ rfl (w.heap.size + 1) rfl 31 (pktCells ⟨p1, p2, p3, p4, p5, p6, p7, p8, p9, p10, p11⟩ v data) _ ((Blk.new2 w _ _ _).alloc _) Tryz.underlying31 rfl (by kernel_rfl) ?_))
  have hb0 : Below w.heap.size w (((w.alloc (.cells #[.string a, .string b] 27)).alloc (.cells (pktCells ⟨p1, p2, p3, p4, p5, p6, p7, p8, p9, p10, p11⟩ v data) 31)).alloc (.cells #[.int .i64 0] 32)) := (((Below.refl _ _).alloc (Nat.le_refl _) _).alloc (by simp) _).alloc (by simp; omega) _
  have HB0 := Lib.hid hb0
  clear hb0
  refine (forgeDatagram a b side ⟨p1, p2, p3, p4, p5, p6, p7, p8, p9, p10, p11⟩ l v data _ HK.out hl (HV.out.below HB0.out (Nat.le_refl _)) HS.out hd).mono ?_
  rintro e w1 ⟨hb1, hc⟩
  have HB1 : Hid (Below w.heap.size w w1) := Lib.hid (HB0.out.trans (hb1.mono (by simp; omega)))
  have K7 := Lib.hid ((Blk.at ((w.alloc (.cells #[.string a, .string b] 27)).alloc (.cells (pktCells ⟨p1, p2, p3, p4, p5, p6, p7, p8, p9, p10, p11⟩ v data) 31)) #[.int .i64 0] 32 (w.heap.size + 1 + 1) (by simp)).below hb1 (by simp))
  have HG1 : Hid (ErrVar w1) := Lib.hid (HG.out.below HB1.out (Nat.le_refl _))
  have hsz1 := HB1.out.size
  clear hb1
  generalize hE : checkE (allM l) a b side data = E at *
  have HE := Lib.hid hE
  clear hE HCE
  rcases hc with ⟨rfl, rfl⟩ | ⟨hE0, p, rfl⟩
  · go_wp2_with fail
    go_ret
    exact ⟨ret_int HE.out.symm, HB1.out⟩
  · go_wp2_with fail
    refine (errorsAs p E 0 (w.heap.size + 1 + 1) _ HG1.out K7.out).mono ?_
    rintro e w2 ⟨rfl, hc2, ht2⟩
    have HT2 := Lib.hid ht2
    clear ht2
    go_wp2_with fail
    go_ret
    exact ⟨ret_int HE.out.symm, HB1.out.trans (HT2.out.below hsz1 (by omega))⟩
end Go.Proofs.YtjboillkhhefaaaGreatDoor
