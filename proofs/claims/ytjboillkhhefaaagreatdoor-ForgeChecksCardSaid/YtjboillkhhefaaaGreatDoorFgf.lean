/- The program's package forge: datagram, Check. -/
import Derived.Test.YtjboillkhhefaaaGreatDoorFge
set_option linter.unusedVariables false
namespace Go.Proofs.YtjboillkhhefaaaGreatDoor
open Go.RowKit

/-- What package forge says of a datagram: nothing wrong, or a fault that wraps a number. -/
def DataPost (E : Int) (w : World) (e : Ending) (w' : World) : Prop := Below w.heap.size w w' ∧ ((E = 0 ∧ e = .returned .nilIface) ∨ (E ≠ 0 ∧ ∃ p : Int, e = .returned (.iface 126 (.agg #[.int .i64 p, .int .i64 E]))))

theorem checkE_ok {ms : List MultiV} {a b : ByteArray} {side : Int} {data : ByteArray} {x y z : MultiV} (hk : knownB a = true) (h4 : firstM ms 4 = some x) (h6 : firstM ms 6 = some y) (h5 : firstM ms 5 = some z) :
    checkE ms a b side data = if z.bytes = tagOf a b (dataText side x.num y.num data) then 0 else 14 := by
  unfold checkE
  rw [hk, h4, h6, h5]
  simp only [Bool.true_eq_false, if_false]
theorem checkE_no {ms : List MultiV} {a b : ByteArray} {side : Int} {data : ByteArray} (hk : knownB a = true) (hno : firstM ms 4 = none ∨ firstM ms 6 = none ∨ firstM ms 5 = none) :
    checkE ms a b side data = 8 := by
  unfold checkE
  rw [hk]
  rcases hno with h | h | h
  · rw [h]; simp
  · rw [h]; cases firstM ms 4 <;> simp
  · rw [h]; cases firstM ms 4 <;> cases firstM ms 6 <;> simp
theorem checkE_none {ms : List MultiV} {a b : ByteArray} {side : Int} {data : ByteArray} (hk : knownB a = false) : checkE ms a b side data = 10 := by
  unfold checkE
  rw [hk, if_pos rfl]

set_option maxRecDepth 100000 in
set_option maxHeartbeats 1000000 in
theorem forgeDatagram (a b : ByteArray) (side : Int) (pk : PktV) (l : List OptV) (v : Value) (data : ByteArray) (w : World) (hk : KeyPair a b) (hl : l.length ≤ 1000) (hv : OptsAt w v l) (hs : ∀ o ∈ l, o.value.size ≤ 1099511627776) (hd : data.size ≤ 1000000) :
    Calls Tryz.prog 27 #[.agg #[.string a, .string b], .int .i64 side, .agg (pktCells pk v data)] w (DataPost (checkE (allM l) a b side data) w) := by
  have HK := Lib.hid hk
  have HV := Lib.hid hv
  have HS := Lib.hid hs
  clear hk hv hs
  have hle : (allM l).length ≤ 1000 := Nat.le_trans (allM_le l) hl
  have HCE : Hid (checkE (allM l) a b side data = checkE (allM l) a b side data) := rfl
  obtain ⟨p1, p2, p3, p4, p5, p6, p7, p8, p9, p10, p11⟩ := pk
  simp only [pktCells]
  go_enter Tryz.func27, Tryz.ntmps27
  go_wp2_with fail
  obtain ⟨w0, hw0⟩ : ∃ w0, w0 = (w.alloc (.cells #[.string a, .string b] 27)).alloc (.cells (pktCells ⟨p1, p2, p3, p4, p5, p6, p7, p8, p9, p10, p11⟩ v data) 31) := ⟨_, rfl⟩
  have B0 : Hid (Blk w0 w.heap.size #[.string a, .string b] 27) := Lib.hid (by rw [hw0]; exact (Blk.new w _ _).alloc _)
  have B1 : Hid (Blk w0 (w.heap.size + 1) (pktCells ⟨p1, p2, p3, p4, p5, p6, p7, p8, p9, p10, p11⟩ v data) 31) := Lib.hid (by rw [hw0]; exact Blk.new2 w _ _ _)
  have hb0 : Below w.heap.size w w0 := by rw [hw0]; exact ((Below.refl _ _).alloc (Nat.le_refl _) _).alloc (by simp) _
  have HB0 := Lib.hid hb0
  have hz0 : w.heap.size + 1 + 1 = w0.heap.size := by rw [hw0]; simp
  have HZ0 := Lib.hid hz0
  simp only [pktCells] at hw0
  rw [← hw0]
  clear hw0 hb0 hz0
  refine (keysKnown a b _ HK.out).mono ?_
  rintro e w1 ⟨rfl, hb1⟩
  have HB1 := Lib.hid hb1
  have hsz1 := hb1.size
  clear hb1
  generalize hkn : knownB a = kn at *
  have HKN := Lib.hid hkn
  clear hkn
  cases kn
  · have HE : Hid (checkE (allM l) a b side data = 10) := Lib.hid (checkE_none HKN.out)
    go_wp2_with fail
    go_ret
    exact ⟨HB0.out.trans (HB1.out.mono (by have := HZ0.out; omega)), by rw [HE.out]; exact .inr ⟨by decide, 0, rfl⟩⟩
  · have q11 : w1.cell? ⟨w.heap.size + 1, 11, none⟩ = some v := by
      rw [(B1.out.below HB1.out (by have := HZ0.out; omega)).cell 11]; rfl
    go_wp2_with fail
    refine (mpAll l v _ hl ((HV.out.below HB0.out (Nat.le_refl _)).below HB1.out (by have := HB0.out.size; omega)) HS.out).mono ?_
    rintro e w2 ⟨v2, rfl, hm2, hb2⟩
    have HM2 := Lib.hid hm2
    have HB2 := Lib.hid hb2
    have hsz2 := hb2.size
    clear hm2 hb2 q11
    go_wp2_with fail
    refine (forgeLacks w1.heap.size (allM l) v2 _ hsz2 hle HM2.out).mono ?_
    rintro e w3 ⟨hb3, x, y, z, err, rfl, hc⟩
    have HB3 : Hid (Below w0.heap.size w0 w3) := Lib.hid (bnext (bnext HB1.out HB2.out) hb3)
    have hsz3 := hb3.size
    clear hb3
    have K0 := Lib.hid (B0.out.below HB3.out (by have := HZ0.out; omega))
    have K1 := Lib.hid (B1.out.below HB3.out (by have := HZ0.out; omega))
    rcases hc with ⟨h4, h6, h5, rfl⟩ | ⟨p, hno, rfl⟩
    · have HE : Hid (checkE (allM l) a b side data = if z.bytes = tagOf a b (dataText side x.num y.num data) then 0 else 14) := Lib.hid (checkE_ok HKN.out h4 h6 h5)
      clear h4 h6 h5
      obtain ⟨x1, x2, x3, x4, x5, x6, x7⟩ := x
      obtain ⟨y1, y2, y3, y4, y5, y6, y7⟩ := y
      obtain ⟨z1, z2, z3, z4, z5, z6, z7⟩ := z
      go_wp2_with (first | (refine wpList_store_blk rfl 127 _ _ rfl w3.heap.size (flat3 ⟨x1, x2, x3, x4, x5, x6, x7⟩ ⟨y1, y2, y3, y4, y5, y6, y7⟩ ⟨z1, z2, z3, z4, z5, z6, z7⟩) rfl rfl 127 (flat3 zeroM zeroM zeroM) (Blk.new w3 _ _) rfl (by kernel_rfl) (one21 _ _ _) ?_; intro w4 hk4 hg4; have KO := Lib.hid hk4; have HG4 := Lib.hid hg4; clear hk4 hg4))
      have HB4 : Hid (Below w0.heap.size w0 w4) := Lib.hid ((HB3.out.alloc HB3.out.size _).trans (below_grown HG4.out (by have := HB3.out.size; omega) (by have := HB3.out.size; simp; omega)))
      have K0' := Lib.hid (B0.out.below HB4.out (by have := HZ0.out; omega))
      have K1' := Lib.hid (B1.out.below HB4.out (by have := HZ0.out; omega))
      have k0 := cell_regrown (show w4.cell? ⟨w.heap.size, 0, none⟩ = some (.string a) by rw [K0'.out.cell 0]; rfl)
      have k1 := cell_regrown (show w4.cell? ⟨w.heap.size, 1, none⟩ = some (.string b) by rw [K0'.out.cell 1]; rfl)
      have k2 := cell_regrown (show w4.cell? ⟨w.heap.size + 1, 12, none⟩ = some (.string data) by rw [K1'.out.cell 12]; rfl)
      have k3 := cell_regrown (show w4.cell? ⟨w3.heap.size, 3, none⟩ = some (.int .i64 x4) by rw [KO.out.cell 3]; rfl)
      have k4 := cell_regrown (show w4.cell? ⟨w3.heap.size, 10, none⟩ = some (.int .i64 y4) by rw [KO.out.cell 10]; rfl)
      have k5 := cell_regrown (show w4.cell? ⟨w3.heap.size, 20, none⟩ = some (.string z7) by rw [KO.out.cell 20]; rfl)
      have CC := Lib.hid (fun d os => Calls.regrown_of (keysData a b side x4 y4 data (Sort.grow (redrawn w4 d) os) HK.out (by omega)))
      have HBB : Hid (Below w.heap.size w w4) := Lib.hid (HB0.out.trans (HB4.out.mono (by have := HZ0.out; omega)))
      clear K0 K1
      by_cases heq : z7 = tagOf a b (dataText side x4 y4 data)
      · have hbq : (z7.toList == (tagOf a b (dataText side x4 y4 data)).toList) = true := by rw [bytes_beq]; simpa using heq
        have HE' : Hid (checkE (allM l) a b side data = 0) := Lib.hid (by rw [HE.out, if_pos heq])
        clear heq HE
        refine wp_region_quiet_below (by kernel_rfl) (by kernel_rfl) ?_
        repeat (go_big_quiet_step (first | (go_at_call 24; exact CC.out _ _)))
        refine wpQuiet_nil ?_
        intro w8 hw'
        have hb8 : Below w4.heap.size w4 w8 := by obtain ⟨p, rfl⟩ := hw'; exact below_regrown _ _ _
        clear hw'
        go_wp2_with fail
        go_ret
        exact ⟨bnext HBB.out hb8, by rw [HE'.out]; exact .inl ⟨rfl, rfl⟩⟩
      · have hbq : (z7.toList == (tagOf a b (dataText side x4 y4 data)).toList) = false := by rw [bytes_beq]; simpa using heq
        have HE' : Hid (checkE (allM l) a b side data = 14) := Lib.hid (by rw [HE.out, if_neg heq])
        clear heq HE
        refine wp_region_quiet_below (by kernel_rfl) (by kernel_rfl) ?_
        repeat (go_big_quiet_step (first | (go_at_call 24; exact CC.out _ _)))
        refine wpQuiet_nil ?_
        intro w8 hw'
        have hb8 : Below w4.heap.size w4 w8 := by obtain ⟨p, rfl⟩ := hw'; exact below_regrown _ _ _
        clear hw'
        go_wp2_with fail
        go_ret
        exact ⟨bnext HBB.out hb8, by rw [HE'.out]; exact .inr ⟨by decide, 2, rfl⟩⟩
    · have HE : Hid (checkE (allM l) a b side data = 8) := Lib.hid (checkE_no HKN.out hno)
      clear hno
      obtain ⟨x1, x2, x3, x4, x5, x6, x7⟩ := x
      obtain ⟨y1, y2, y3, y4, y5, y6, y7⟩ := y
      obtain ⟨z1, z2, z3, z4, z5, z6, z7⟩ := z
      go_wp2_with (first | (refine wpList_store_blk rfl 127 _ _ rfl w3.heap.size (flat3 ⟨x1, x2, x3, x4, x5, x6, x7⟩ ⟨y1, y2, y3, y4, y5, y6, y7⟩ ⟨z1, z2, z3, z4, z5, z6, z7⟩) rfl rfl 127 (flat3 zeroM zeroM zeroM) (Blk.new w3 _ _) rfl (by kernel_rfl) (one21 _ _ _) ?_; intro w4 hk4 hg4; have KO := Lib.hid hk4; have HG4 := Lib.hid hg4; clear hk4 hg4))
      go_ret
      exact ⟨(HB0.out.trans ((HB3.out.alloc HB3.out.size _).mono (by have := HZ0.out; omega))).trans (below_grown HG4.out (by have := HB3.out.size; have := HZ0.out; omega) (by have := HB3.out.size; have := HZ0.out; simp; omega)), by rw [HE.out]; exact .inr ⟨by decide, p, rfl⟩⟩
end Go.Proofs.YtjboillkhhefaaaGreatDoor
