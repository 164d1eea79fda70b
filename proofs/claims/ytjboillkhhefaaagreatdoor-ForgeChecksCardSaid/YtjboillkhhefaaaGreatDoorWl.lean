/- The anchor of the statements on package forge: the walk. -/
import Derived.Test.YtjboillkhhefaaaGreatDoorWk
set_option linter.unusedVariables false
namespace Go.Proofs.YtjboillkhhefaaaGreatDoor
open Go.RowKit

theorem pairAt {w : World} {n : Nat} {a b : ByteArray} {T : TypeId} (h : Blk w n #[.string a, .string b] T) : w.cell? ⟨n, 0, none⟩ = some (.string a) ∧ w.cell? ⟨n, 1, none⟩ = some (.string b) := ⟨h.cell 0, h.cell 1⟩
theorem pktAt {w : World} {n : Nat} {p : PktV} {v : Value} {d : ByteArray} {T : TypeId} (h : Blk w n (pktCells p v d) T) : w.cell? ⟨n, 0, none⟩ = some (.int .i64 p.kind) ∧ w.cell? ⟨n, 1, none⟩ = some (.bool p.long) ∧ w.cell? ⟨n, 2, none⟩ = some (.int .i64 p.src) ∧ w.cell? ⟨n, 3, none⟩ = some (.int .i64 p.dst) ∧
    w.cell? ⟨n, 4, none⟩ = some (.int .i64 p.ccval) ∧ w.cell? ⟨n, 5, none⟩ = some (.int .i64 p.cover) ∧ w.cell? ⟨n, 6, none⟩ = some (.int .i64 p.seq) ∧ w.cell? ⟨n, 7, none⟩ = some (.int .i64 p.ack) ∧ w.cell? ⟨n, 8, none⟩ = some (.int .i64 p.service) ∧ w.cell? ⟨n, 9, none⟩ = some (.int .i64 p.code) ∧
    w.cell? ⟨n, 10, none⟩ = some (.int .i64 p.detail) ∧ w.cell? ⟨n, 11, none⟩ = some v ∧ w.cell? ⟨n, 12, none⟩ = some (.string d) :=
  ⟨h.cell 0, h.cell 1, h.cell 2, h.cell 3, h.cell 4, h.cell 5, h.cell 6, h.cell 7, h.cell 8, h.cell 9, h.cell 10, h.cell 11, h.cell 12⟩
set_option maxRecDepth 100000 in
set_option maxHeartbeats 2000000 in
theorem forgeWorks (w : World) (hg : ErrVar w) :
    Calls Tryz.prog 8 #[] w fun e w' => e = .returned (.bool true) ∧ Below w.heap.size w w' := by
  have HG := Lib.hid hg
  clear hg
  go_enter Tryz.func8, Tryz.ntmps8
  go_wp2_with fail
  refine (keysNew_ok keyA keyB _ rfl rfl).mono ?_
  rintro e w1 ⟨rfl, hb1⟩
  have HB1 := Lib.hid hb1
  have hsz1 := hb1.size
  clear hb1
  have HTG : Hid (tagOf keyA keyB (dataText 1 5 8 ⟨#[120]⟩) = tagOf keyA keyB (dataText 1 5 8 ⟨#[120]⟩)) := rfl
  have HTS := Lib.hid (tagOf_size keyA keyB (dataText 1 5 8 ⟨#[120]⟩) rfl)
  have HTD := Lib.hid tags_differ
  have HKP := Lib.hid keyPairAB
  have HKN : Hid (knownB keyA = true) := rfl
  generalize keyA = a at *
  generalize keyB = b at *
  go_wp2_with fail
  have B1 : Hid (Blk (w1.alloc (.cells #[.string a, .string b] 27)) w1.heap.size #[.string a, .string b] 27) := Lib.hid (Blk.new _ _ _)
  refine (keysData a b 1 5 8 ⟨#[120]⟩ _ HKP.out (by decide)).mono ?_
  rintro e w2 ⟨rfl, hb2⟩
  have HB2 : Hid (Below w.heap.size w w2) := Lib.hid ((HB1.out.alloc hsz1 _).trans (hb2.mono (by simp; omega)))
  have B2 := Lib.hid (B1.out.below hb2 (by simp))
  have hsz2 : w1.heap.size < w2.heap.size := by have := hb2.size; simp at this; omega
  clear hb2 B1
  generalize htag : tagOf a b (dataText 1 5 8 ⟨#[120]⟩) = tag at *
  have HTAG := Lib.hid htag
  clear htag
  go_wp2_with fail
  have BS : Hid (MultisAt w2.heap.size (w2.alloc (.cells (flat3 (seqM 5) (rttM 8) (tagM tag)) 65)) (.slice (some ⟨w2.heap.size, 0, none⟩) 3 3) [seqM 5, rttM 8, tagM tag]) := Lib.hid (World.ownsRow_lit w2 (flat3 (seqM 5) (rttM 8) (tagM tag)) 3 (Nat.le_refl _) (by decide) rfl)
  have HDS := Lib.hid (data_sizes 5 8 tag HTS.out)
  have HDA := Lib.hid (allM_data 5 8 tag (by decide) (by decide) (by decide) (by decide) HTS.out)
  have HDF := Lib.hid (data_first 5 8 tag)
  refine (mpSay w2.heap.size w2.heap.size 3 [(seqM 5, 4), (rttM 8, 6), (tagM tag, 5)] _ (by show 3 ≤ 100; omega) BS.out (by simp) (by show 3 ≤ 3; omega) (fun i hi => ?_) HDS.out.1 HDS.out.2.1).mono ?_
  · match i, hi with
    | 0, _ => exact ⟨valid_seq 5 (by decide) (by decide), by show 4 < 256; omega⟩
    | 1, _ => exact ⟨valid_rtt 8 (by decide) (by decide), by show 6 < 256; omega⟩
    | 2, _ => exact ⟨valid_tag tag HTS.out, by show 5 < 256; omega⟩
  rintro e w3 ⟨v, rfl, hr, hb3⟩
  have hr' : OptRow (w2.heap.size + 1) w3 v (dataOpts 5 8 tag) := by
    have h := hr
    rw [show (w2.alloc _).heap.size = w2.heap.size + 1 by simp] at h
    exact h
  obtain ⟨g, cap, rfl, hg1, hg2⟩ := World.ownsRow.form hr' (by show 0 < 3; omega)
  have e3 : (dataOpts 5 8 tag).length = 3 := rfl
  rw [e3] at hr' ⊢
  have HR := Lib.hid hr'
  clear e3
  have B3 := Lib.hid ((B2.out.alloc (.cells (flat3 (seqM 5) (rttM 8) (tagM tag)) 65)).below hb3 (by simp; omega))
  have hsz3 : w2.heap.size < w3.heap.size := by have := hb3.size; simp at this; omega
  have HB3 : Hid (Below w.heap.size w w3) := Lib.hid ((HB2.out.alloc (by omega) _).trans (hb3.mono (by simp; omega)))
  clear hr hr' hb3 BS B2 HTG
  have HE1 : Hid (checkE (allM (dataOpts 5 8 tag)) a b 1 ⟨#[120]⟩ = 0) := Lib.hid (by
    rw [HDA.out, checkE_ok HKN.out HDF.out.1 HDF.out.2.1 HDF.out.2.2.1]
    exact if_pos HTAG.out.symm)
  have HE0 : Hid (checkE (allM (dataOpts 5 8 tag)) a b 0 ⟨#[120]⟩ = 14) := Lib.hid (by
    rw [HDA.out, checkE_ok HKN.out HDF.out.1 HDF.out.2.1 HDF.out.2.2.1]
    exact if_neg HTD.out)
  have HSA : Hid (saysB (allM (dataOpts 5 8 tag)) a b 1 = false) := Lib.hid (by unfold saysB; rw [HDA.out, HDF.out.2.2.2.2])
  have HHE : Hid (hearsB (allM (dataOpts 5 8 tag)) a b 1 = false) := Lib.hid (by unfold hearsB; rw [HDA.out, HDF.out.2.2.2.1])
  have HL40 : Hid (∀ o ∈ dataOpts 5 8 tag, o.value.size ≤ 1099511627776) := Lib.hid (fun o ho => by have := HDS.out.2.2 o ho; omega)
  have hts : ((tag.size : Int) == 32) = true := by rw [HTS.out]; rfl
  have KP4 := Lib.hid (B3.out.alloc (.cells (pktCells ⟨4, false, 0, 0, 0, 0, 0, 0, 0, 0, 0⟩ (.slice (some ⟨g, 0, none⟩) 3 cap) ⟨#[120]⟩) 31))
  have KX4 := Lib.hid (Blk.new w3 (pktCells ⟨4, false, 0, 0, 0, 0, 0, 0, 0, 0, 0⟩ (.slice (some ⟨g, 0, none⟩) 3 cap) ⟨#[120]⟩) 31)
  have hb4 : Below w3.heap.size w3 (w3.alloc (.cells (pktCells ⟨4, false, 0, 0, 0, 0, 0, 0, 0, 0, 0⟩ (.slice (some ⟨g, 0, none⟩) 3 cap) ⟨#[120]⟩) 31)) := (Below.refl _ _).alloc (Nat.le_refl _) _
  have HV4 := Lib.hid ((OptRow.opts HR.out).below hb4 (Nat.le_refl _))
  have HB4 : Hid (Below w.heap.size w (w3.alloc (.cells (pktCells ⟨4, false, 0, 0, 0, 0, 0, 0, 0, 0, 0⟩ (.slice (some ⟨g, 0, none⟩) 3 cap) ⟨#[120]⟩) 31))) := Lib.hid (bnext HB3.out hb4)
  have HG4 := Lib.hid (HG.out.below HB4.out (Nat.le_refl _))
  clear hb4 HDA HDF HDS HTD HTAG
  have hdl : (dataOpts 5 8 tag).length ≤ 1000 := by show 3 ≤ 1000; omega
  generalize dataOpts 5 8 tag = ds at *
  obtain ⟨y0, y1⟩ := pairAt B3.out
  have hlt13 : w1.heap.size < w3.heap.size := by omega
  go_wp2_with fail
  clear y0 y1
  refine (forgeCheck a b 1 ⟨4, false, 0, 0, 0, 0, 0, 0, 0, 0, 0⟩ ds _ ⟨#[120]⟩ _ HG4.out HKP.out hdl HV4.out HL40.out (by decide)).mono ?_
  rintro e w5 ⟨rfl, hb5⟩
  have KP5 := Lib.hid (KP4.out.below hb5 KP4.out.lt)
  have KX5 := Lib.hid (KX4.out.below hb5 KX4.out.lt)
  have HV5 := Lib.hid (HV4.out.below hb5 (Nat.le_refl _))
  have HG5 := Lib.hid (HG4.out.below hb5 (Nat.le_refl _))
  have HB5 : Hid (Below w.heap.size w w5) := Lib.hid (HB4.out.trans (hb5.mono HB4.out.size))
  clear hb5
  rw [HE1.out]
  obtain ⟨y0, y1⟩ := pairAt KP5.out
  obtain ⟨x0, x1, x2, x3, x4, x5, x6, x7, x8, x9, x10, x11, x12⟩ := pktAt KX5.out
  go_wp2_with fail
  clear y0 y1 x0 x1 x2 x3 x4 x5 x6 x7 x8 x9 x10 x11 x12
  refine (forgeCheck a b 0 ⟨4, false, 0, 0, 0, 0, 0, 0, 0, 0, 0⟩ ds _ ⟨#[120]⟩ _ HG5.out HKP.out hdl HV5.out HL40.out (by decide)).mono ?_
  rintro e w6 ⟨rfl, hb6⟩
  have KP6 := Lib.hid (KP5.out.below hb6 KP5.out.lt)
  have KX6 := Lib.hid (KX5.out.below hb6 KX5.out.lt)
  have HV6 := Lib.hid (HV5.out.below hb6 (Nat.le_refl _))
  have HG6 := Lib.hid (HG5.out.below hb6 (Nat.le_refl _))
  have HB6 : Hid (Below w.heap.size w w6) := Lib.hid (HB5.out.trans (hb6.mono HB5.out.size))
  clear hb6
  rw [HE0.out]
  obtain ⟨y0, y1⟩ := pairAt KP6.out
  obtain ⟨x0, x1, x2, x3, x4, x5, x6, x7, x8, x9, x10, x11, x12⟩ := pktAt KX6.out
  go_wp2_with fail
  clear y0 y1 x0 x1 x2 x3 x4 x5 x6 x7 x8 x9 x10 x11 x12
  refine (forgeSays a b 1 ⟨4, false, 0, 0, 0, 0, 0, 0, 0, 0, 0⟩ ds _ ⟨#[120]⟩ _ HKP.out hdl HV6.out HL40.out).mono ?_
  rintro e w7 ⟨rfl, hb7⟩
  have KP7 := Lib.hid (KP6.out.below hb7 KP6.out.lt)
  have KX7 := Lib.hid (KX6.out.below hb7 KX6.out.lt)
  have HV7 := Lib.hid (HV6.out.below hb7 (Nat.le_refl _))
  have HG7 := Lib.hid (HG6.out.below hb7 (Nat.le_refl _))
  have HB7 : Hid (Below w.heap.size w w7) := Lib.hid (HB6.out.trans (hb7.mono HB6.out.size))
  clear hb7
  rw [HSA.out]
  obtain ⟨y0, y1⟩ := pairAt KP7.out
  obtain ⟨x0, x1, x2, x3, x4, x5, x6, x7, x8, x9, x10, x11, x12⟩ := pktAt KX7.out
  go_wp2_with fail
  clear y0 y1 x0 x1 x2 x3 x4 x5 x6 x7 x8 x9 x10 x11 x12
  refine (forgeHears a b 1 ⟨4, false, 0, 0, 0, 0, 0, 0, 0, 0, 0⟩ ds _ ⟨#[120]⟩ _ HKP.out hdl HV7.out HL40.out).mono ?_
  rintro e w8 ⟨rfl, hb8⟩
  have KP8 := Lib.hid (KP7.out.below hb8 KP7.out.lt)
  have KX8 := Lib.hid (KX7.out.below hb8 KX7.out.lt)
  have HV8 := Lib.hid (HV7.out.below hb8 (Nat.le_refl _))
  have HG8 := Lib.hid (HG7.out.below hb8 (Nat.le_refl _))
  have HB8 : Hid (Below w.heap.size w w8) := Lib.hid (HB7.out.trans (hb8.mono HB7.out.size))
  clear hb8
  rw [HHE.out]
  go_wp2_with fail
  go_ret
  exact ⟨rfl, HB8.out⟩
end Go.Proofs.YtjboillkhhefaaaGreatDoor
