/- The reference's Hears, Check (layer 40). -/
import Derived.Test.YtjboillkhhefaaaGreatDoorFgc
set_option linter.unusedVariables false
namespace Go.Proofs.YtjboillkhhefaaaGreatDoor
open Go.RowKit

set_option maxRecDepth 100000 in
set_option maxHeartbeats 1000000 in
theorem refHears (a b : ByteArray) (side : Int) (pk : PktV) (l : List OptV) (v : Value) (data : ByteArray) (w : World) (hk : KeyPair a b) (hl : l.length ≤ 1000) (hv : OptsAt w v l) (hs : ∀ o ∈ l, o.value.size ≤ 1099511627776) :
    Calls Tryz.prog 16 #[.string a, .string b, .int .i64 side, .agg (pktCells pk v data)] w fun e w' => e = .returned (.bool (hearsB (allM l) a b side)) ∧ Below w.heap.size w w' := by
  have HK := Lib.hid hk
  have HV := Lib.hid hv
  have HS := Lib.hid hs
  have HKE := Lib.hid (known_empty a)
  clear hk hv hs
  obtain ⟨p1, p2, p3, p4, p5, p6, p7, p8, p9, p10, p11⟩ := pk
  simp only [pktCells]
  go_enter Tryz.func16, Tryz.ntmps16
  go_wp2_with fail
  obtain ⟨w0, hw0⟩ : ∃ w0, w0 = w.alloc (.cells (pktCells ⟨p1, p2, p3, p4, p5, p6, p7, p8, p9, p10, p11⟩ v data) 31) := ⟨_, rfl⟩
  have hb0 : Below w.heap.size w w0 := by rw [hw0]; exact (Below.refl _ _).alloc (Nat.le_refl _) _
  have HB0 := Lib.hid hb0
  have hz0 : w.heap.size + 1 = w0.heap.size := by rw [hw0]; simp
  have HZ0 := Lib.hid hz0
  simp only [pktCells] at hw0
  rw [← hw0]
  clear hw0 hb0 hz0
  refine (refFirst l 0 0 v _ hl (HV.out.below HB0.out (Nat.le_refl _)) HS.out).mono ?_
  rintro e w4 ⟨rfl, hb4⟩
  have HB4 := Lib.hid hb4
  have hsz4 := hb4.size
  obtain ⟨t1, t2, t3, t4, t5, t6, t7, bt, ht, ht0, ht1⟩ := multiOf_form (firstR (allM l) 0 0)
  rw [ht]
  rw [firstR_one] at ht0 ht1
  have HE := Lib.hid (hearsB_of (a := a) (b := b) (side := side) ht0 ht1)
  clear hb4 ht ht0 ht1
  go_wp2_with fail
  obtain ⟨w5, hw5⟩ : ∃ w5, w5 = w4.alloc (.cells #[.int .i64 t1, .int .i64 t2, .int .i64 t3, .int .i64 t4, .int .i64 t5, .int .i64 t6, .string t7] 65) := ⟨_, rfl⟩
  rw [← hw5]
  have HW5 : Hid (Below w0.heap.size w0 w5) := Lib.hid (by rw [hw5]; exact HB4.out.alloc hsz4 _)
  have KT : Hid (Blk w5 w4.heap.size #[.int .i64 t1, .int .i64 t2, .int .i64 t3, .int .i64 t4, .int .i64 t5, .int .i64 t6, .string t7] 65) := Lib.hid (by rw [hw5]; exact Blk.new _ _ _)
  have k3 := cell_regrown (show w5.cell? ⟨w4.heap.size, 3, none⟩ = some (.int .i64 t4) by rw [KT.out.cell 3]; rfl)
  have k6 := cell_regrown (show w5.cell? ⟨w4.heap.size, 6, none⟩ = some (.string t7) by rw [KT.out.cell 6]; rfl)
  have CC := Lib.hid (fun d os => Calls.regrown_of (refConfirmText side t4 (Sort.grow (redrawn w5 d) os)))
  have HCS := Lib.hid (confirmText_size side t4)
  have HBB : Hid (Below w.heap.size w w5) := Lib.hid (HB0.out.trans (HW5.out.mono (by have := HZ0.out; omega)))
  have hke := HKE.out
  generalize knownB a = kn at *
  clear hw5 HKE
  cases kn <;> cases bt
  all_goals
    refine wp_region_quiet_below (by kernel_rfl) (by kernel_rfl) ?_
    repeat (go_big_quiet_step (first | (go_at_call 39; exact CC.out _ _) | (go_at_call 30; exact ref26TagR _ _ HK.out (by have := HCS.out; omega))))
    refine wpQuiet_nil ?_
    intro w6 hw'
    have hb6 : Below w5.heap.size w5 w6 := by obtain ⟨p, rfl⟩ := hw'; exact below_regrown _ _ _
    clear hw'
    go_wp2_with fail
    go_ret
    exact ⟨ret_bool (by have h := HE.out; simp at h; simp [h, bytes_beq]), bnext HBB.out hb6⟩

/-- What is wrong with a packet's datagram. -/
def checkE (ms : List MultiV) (a b : ByteArray) (side : Int) (data : ByteArray) : Int :=
  if knownB a = false then 10 else match firstM ms 4, firstM ms 6, firstM ms 5 with
    | some s, some r, some t => if t.bytes = tagOf a b (dataText side s.num r.num data) then 0 else 14
    | _, _, _ => 8

set_option maxRecDepth 100000 in
set_option maxHeartbeats 1000000 in
theorem refCheck (a b : ByteArray) (side : Int) (pk : PktV) (l : List OptV) (v : Value) (data : ByteArray) (w : World) (hk : KeyPair a b) (hl : l.length ≤ 1000) (hv : OptsAt w v l) (hs : ∀ o ∈ l, o.value.size ≤ 1099511627776) (hd : data.size ≤ 1000000) :
    Calls Tryz.prog 12 #[.string a, .string b, .int .i64 side, .agg (pktCells pk v data)] w fun e w' => e = .returned (.int .i64 (checkE (allM l) a b side data)) ∧ Below w.heap.size w w' := by
  have HK := Lib.hid hk
  have HV := Lib.hid hv
  have HS := Lib.hid hs
  have HKE := Lib.hid (known_empty a)
  clear hk hv hs
  obtain ⟨p1, p2, p3, p4, p5, p6, p7, p8, p9, p10, p11⟩ := pk
  simp only [pktCells]
  go_enter Tryz.func12, Tryz.ntmps12
  go_wp2_with fail
  obtain ⟨w0, hw0⟩ : ∃ w0, w0 = w.alloc (.cells (pktCells ⟨p1, p2, p3, p4, p5, p6, p7, p8, p9, p10, p11⟩ v data) 31) := ⟨_, rfl⟩
  have B1 : Hid (Blk w0 w.heap.size (pktCells ⟨p1, p2, p3, p4, p5, p6, p7, p8, p9, p10, p11⟩ v data) 31) := Lib.hid (by rw [hw0]; exact Blk.new w _ _)
  have hb0 : Below w.heap.size w w0 := by rw [hw0]; exact (Below.refl _ _).alloc (Nat.le_refl _) _
  have HB0 := Lib.hid hb0
  have hz0 : w.heap.size + 1 = w0.heap.size := by rw [hw0]; simp
  have HZ0 := Lib.hid hz0
  simp only [pktCells] at hw0
  rw [← hw0]
  clear hw0 hb0 hz0
  refine (refFirst l 4 4 v _ hl (HV.out.below HB0.out (Nat.le_refl _)) HS.out).mono ?_
  rintro e w2 ⟨rfl, hb2⟩
  have HW2 := Lib.hid hb2
  obtain ⟨s1, s2, s3, s4, s5, s6, s7, bs, hc, hs0, hs1⟩ := multiOf_form (firstR (allM l) 4 4)
  rw [hc]
  rw [firstR_one] at hs0 hs1
  have HSS := Lib.hid (And.intro hs0 hs1)
  have q11 : w2.cell? ⟨w.heap.size, 11, none⟩ = some v := by
    have h := B1.out.below HW2.out (by have := HZ0.out; omega)
    rw [h.cell 11]; rfl
  have hsz2 : w.heap.size < w2.heap.size := by have := HZ0.out; have := HW2.out.size; omega
  have K2 := Lib.hid (Blk.new w2 #[.int .i64 s1, .int .i64 s2, .int .i64 s3, .int .i64 s4, .int .i64 s5, .int .i64 s6, .string s7] 65)
  have HW3 : Hid (Below w0.heap.size w0 (w2.alloc (.cells #[.int .i64 s1, .int .i64 s2, .int .i64 s3, .int .i64 s4, .int .i64 s5, .int .i64 s6, .string s7] 65))) := Lib.hid (HW2.out.alloc HW2.out.size _)
  clear hc hs0 hs1 hb2
  go_wp2_with fail
  refine (refFirst l 6 6 v _ hl ((HV.out.below HB0.out (Nat.le_refl _)).below HW3.out (Nat.le_refl _)) HS.out).mono ?_
  rintro e w4 ⟨rfl, hb4⟩
  have HB4 : Hid (Below w0.heap.size w0 w4) := Lib.hid (HW3.out.trans (hb4.mono (by have := HW2.out.size; simp; omega)))
  have hsz4 : w2.heap.size < w4.heap.size := by have := hb4.size; simp at this; omega
  have K4 := Lib.hid (K2.out.below hb4 (by simp))
  obtain ⟨r1, r2, r3, r4, r5, r6, r7, br, hr, hr0, hr1⟩ := multiOf_form (firstR (allM l) 6 6)
  rw [hr]
  rw [firstR_one] at hr0 hr1
  have HRR := Lib.hid (And.intro hr0 hr1)
  have q11' : w4.cell? ⟨w.heap.size, 11, none⟩ = some v := by
    have h := B1.out.below HB4.out (by have := HZ0.out; omega)
    rw [h.cell 11]; rfl
  have hsz4' : w.heap.size < w4.heap.size := by omega
  have K5 := Lib.hid (Blk.new w4 #[.int .i64 r1, .int .i64 r2, .int .i64 r3, .int .i64 r4, .int .i64 r5, .int .i64 r6, .string r7] 65)
  have HW5 : Hid (Below w0.heap.size w0 (w4.alloc (.cells #[.int .i64 r1, .int .i64 r2, .int .i64 r3, .int .i64 r4, .int .i64 r5, .int .i64 r6, .string r7] 65))) := Lib.hid (HB4.out.alloc HB4.out.size _)
  clear hr hr0 hr1 hb4 q11
  go_wp2_with fail
  refine (refFirst l 5 5 v _ hl ((HV.out.below HB0.out (Nat.le_refl _)).below HW5.out (Nat.le_refl _)) HS.out).mono ?_
  rintro e w6 ⟨rfl, hb6⟩
  have HB6 : Hid (Below w0.heap.size w0 w6) := Lib.hid (HW5.out.trans (hb6.mono (by have := HB4.out.size; simp; omega)))
  have hsz6 : w4.heap.size < w6.heap.size := by have := hb6.size; simp at this; omega
  have K6 := Lib.hid ((K4.out.alloc _).below hb6 (by simp; omega))
  have K7 := Lib.hid (K5.out.below hb6 (by simp))
  obtain ⟨t1, t2, t3, t4, t5, t6, t7, bt, ht, ht0, ht1⟩ := multiOf_form (firstR (allM l) 5 5)
  rw [ht]
  rw [firstR_one] at ht0 ht1
  have HTT := Lib.hid (And.intro ht0 ht1)
  clear ht ht0 ht1 hb6 q11'
  have HE : Hid (checkE (allM l) a b side data = if knownB a = false then 10 else if (bs && (br && bt)) = false then 8 else if t7 = tagOf a b (dataText side s4 r4 data) then 0 else 14) := Lib.hid (by
    unfold checkE
    cases bs with
    | false => rw [HSS.out.1 rfl]; simp
    | true =>
      rw [HSS.out.2 rfl]
      cases br with
      | false => rw [HRR.out.1 rfl]; simp
      | true =>
        rw [HRR.out.2 rfl]
        cases bt with
        | false => rw [HTT.out.1 rfl]; simp
        | true => rw [HTT.out.2 rfl]; simp)
  have hke := HKE.out
  generalize knownB a = kn at *
  have CC := Lib.hid (fun (W : World) (d : Nat) (os : Array Obj) => Calls.regrown_of (refDataText side s4 r4 data (Sort.grow (redrawn W d) os) (by omega)))
  have HCS := Lib.hid (dataText_size side s4 r4 data)
  have B6 := Lib.hid (B1.out.below HB6.out (by have := HZ0.out; omega))
  clear HSS HRR HTT HKE
  cases kn
  · go_wp2_with fail
    go_ret
    exact ⟨ret_int (by have h := HE.out; simp at h; exact h.symm), (HB0.out.trans (HB6.out.mono (by have := HZ0.out; omega))).alloc (by have := HB6.out.size; have := HZ0.out; omega) _⟩
  · cases bs <;> cases br <;> cases bt
    all_goals go_wp2_with fail
    all_goals first | (go_ret; exact ⟨ret_int (by have h := HE.out; simp at h; exact h.symm), (HB0.out.trans (HB6.out.mono (by have := HZ0.out; omega))).alloc (by have := HB6.out.size; have := HZ0.out; omega) _⟩) | skip
    obtain ⟨w7, hw7⟩ : ∃ w7, w7 = w6.alloc (.cells #[.int .i64 t1, .int .i64 t2, .int .i64 t3, .int .i64 t4, .int .i64 t5, .int .i64 t6, .string t7] 65) := ⟨_, rfl⟩
    rw [← hw7]
    have HW7 : Hid (Below w0.heap.size w0 w7) := Lib.hid (by rw [hw7]; exact HB6.out.alloc HB6.out.size _)
    have KT : Hid (Blk w7 w6.heap.size #[.int .i64 t1, .int .i64 t2, .int .i64 t3, .int .i64 t4, .int .i64 t5, .int .i64 t6, .string t7] 65) := Lib.hid (by rw [hw7]; exact Blk.new _ _ _)
    have k0 := cell_regrown (show w7.cell? ⟨w.heap.size, 12, none⟩ = some (.string data) by rw [hw7, (B6.out.alloc _).cell 12]; rfl)
    have k1 := cell_regrown (show w7.cell? ⟨w2.heap.size, 3, none⟩ = some (.int .i64 s4) by rw [hw7, (K6.out.alloc _).cell 3]; rfl)
    have k2 := cell_regrown (show w7.cell? ⟨w4.heap.size, 3, none⟩ = some (.int .i64 r4) by rw [hw7, (K7.out.alloc _).cell 3]; rfl)
    have k3 := cell_regrown (show w7.cell? ⟨w6.heap.size, 6, none⟩ = some (.string t7) by rw [KT.out.cell 6]; rfl)
    have HBB : Hid (Below w.heap.size w w7) := Lib.hid (HB0.out.trans (HW7.out.mono (by have := HZ0.out; omega)))
    clear hw7
    by_cases heq : t7 = tagOf a b (dataText side s4 r4 data)
    · have hbq : (t7.toList == (tagOf a b (dataText side s4 r4 data)).toList) = true := by rw [bytes_beq]; simpa using heq
      have HQ := Lib.hid heq
      clear heq
      refine wp_region_quiet_below (by kernel_rfl) (by kernel_rfl) ?_
      repeat (go_big_quiet_step (first | (go_at_call 31; exact CC.out _ _ _) | (go_at_call 30; exact ref26TagR _ _ HK.out (by have := HCS.out; omega))))
      refine wpQuiet_nil ?_
      intro w8 hw'
      have hb8 : Below w7.heap.size w7 w8 := by obtain ⟨p, rfl⟩ := hw'; exact below_regrown _ _ _
      clear hw'
      go_wp2_with fail
      go_ret
      exact ⟨ret_int (by have h := HE.out; simp [HQ.out.symm] at h; exact h.symm), bnext HBB.out hb8⟩
    · have hbq : (t7.toList == (tagOf a b (dataText side s4 r4 data)).toList) = false := by rw [bytes_beq]; simpa using heq
      have HQ := Lib.hid heq
      clear heq
      refine wp_region_quiet_below (by kernel_rfl) (by kernel_rfl) ?_
      repeat (go_big_quiet_step (first | (go_at_call 31; exact CC.out _ _ _) | (go_at_call 30; exact ref26TagR _ _ HK.out (by have := HCS.out; omega))))
      refine wpQuiet_nil ?_
      intro w8 hw'
      have hb8 : Below w7.heap.size w7 w8 := by obtain ⟨p, rfl⟩ := hw'; exact below_regrown _ _ _
      clear hw'
      go_wp2_with fail
      go_ret
      exact ⟨ret_int (by have h := HE.out; simp [HQ.out] at h; exact h.symm), bnext HBB.out hb8⟩
end Go.Proofs.YtjboillkhhefaaaGreatDoor
