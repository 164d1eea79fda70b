/- The reference's Says, Hears, Check (layer 40). -/
import Derived.Test.YtjboillkhhefaaaGreatDoorFgb
set_option linter.unusedVariables false
namespace Go.Proofs.YtjboillkhhefaaaGreatDoor
open Go.RowKit

theorem firstR_C (l : List MultiV) : firstR l 7 10 = firstC l := rfl
theorem tagText_size (k side : Int) (l : List ByteArray) : (tagText k side l).size = 2 + (joinB l).size := by
  unfold tagText
  rw [ByteArray.size_append, ByteArray.size_append, beB_size, beB_size]
theorem controlText_size (side num kind addr prio : Int) : (controlText side num kind addr prio).size ≤ 100 := by
  unfold controlText
  rw [tagText_size, joinB_size]
  simp [ByteArray.size_append, beB_size]
theorem confirmText_size (side num : Int) : (confirmText side num).size ≤ 100 := by
  unfold confirmText
  rw [tagText_size, joinB_size]
  simp [beB_size]
theorem dataText_size (side num trip : Int) (data : ByteArray) : (dataText side num trip data).size ≤ data.size + 100 := by
  unfold dataText
  rw [tagText_size, joinB_size]
  simp [beB_size]
  omega
theorem ref26TagR {w : World} {a b text : ByteArray} (d : Nat) (os : Array Obj) (hk : KeyPair a b) (ht : text.size ≤ 1099511627) :
    Calls Tryz.prog 30 #[.string a, .string b, .string text] (Sort.grow (redrawn w d) os) fun e w'' => e = .returned (.string (tagOf a b text)) ∧ ∃ p : Regrown, w'' = Sort.grow (redrawn w p.d) p.os := Calls.regrown_of (ref26Tag a b text _ hk ht)
theorem multiOf_form7 (l : List MultiV) : ∃ (m1 m2 m3 m4 m5 m6 : Int) (m7 : ByteArray) (bt : Bool), multiOf (firstR l 7 10) = .tuple #[.agg #[.int .i64 m1, .int .i64 m2, .int .i64 m3, .int .i64 m4, .int .i64 m5, .int .i64 m6, .string m7], .bool bt] ∧ (bt = false → firstC l = none) ∧ (bt = true → firstC l = some ⟨m1, m2, m3, m4, m5, m6, m7⟩) ∧ 0 ≤ m1 ∧ m1 ≤ 10 := by
  rw [firstR_C]
  cases h : firstC l with
  | none => exact ⟨0, 0, 0, 0, 0, 0, ⟨#[]⟩, false, rfl, fun _ => rfl, (fun h => by cases h), by omega, by omega⟩
  | some m =>
    have h1 := List.find?_some h
    simp [inKinds] at h1
    exact ⟨m.kind, m.addr, m.prio, m.num, m.token, m.nonce, m.bytes, true, rfl, (fun h => by cases h), fun _ => rfl, by omega, h1.2⟩
theorem known_empty (a : ByteArray) : a.toList.isEmpty = !knownB a := by
  have h := toList_len a
  unfold knownB
  cases hl : a.toList with
  | nil => rw [hl] at h; simp at h; simp [← h]
  | cons c t => rw [hl] at h; simp at h; simp [← h]

set_option maxRecDepth 100000 in
set_option maxHeartbeats 1000000 in
theorem refSays (a b : ByteArray) (side : Int) (pk : PktV) (l : List OptV) (v : Value) (data : ByteArray) (w : World) (hk : KeyPair a b) (hl : l.length ≤ 1000) (hv : OptsAt w v l) (hs : ∀ o ∈ l, o.value.size ≤ 1099511627776) :
    Calls Tryz.prog 14 #[.string a, .string b, .int .i64 side, .agg (pktCells pk v data)] w fun e w' => e = .returned (.bool (saysB (allM l) a b side)) ∧ Below w.heap.size w w' := by
  have HK := Lib.hid hk
  have HV := Lib.hid hv
  have HS := Lib.hid hs
  have HKE := Lib.hid (known_empty a)
  clear hk hv hs
  obtain ⟨p1, p2, p3, p4, p5, p6, p7, p8, p9, p10, p11⟩ := pk
  simp only [pktCells]
  go_enter Tryz.func14, Tryz.ntmps14
  go_wp2_with fail
  obtain ⟨w0, hw0⟩ : ∃ w0, w0 = w.alloc (.cells (pktCells ⟨p1, p2, p3, p4, p5, p6, p7, p8, p9, p10, p11⟩ v data) 31) := ⟨_, rfl⟩
  have B1 : Hid (Blk w0 w.heap.size (pktCells ⟨p1, p2, p3, p4, p5, p6, p7, p8, p9, p10, p11⟩ v data) 31) := Lib.hid (by rw [hw0]; exact Blk.new w _ _)
  have hb0 : Below w.heap.size w w0 := by rw [hw0]; exact (Below.refl _ _).alloc (Nat.le_refl _) _
  have HB0 := Lib.hid hb0
  have hz0 : w.heap.size + 1 = w0.heap.size := by rw [hw0]; simp
  have HZ0 := Lib.hid hz0
  simp only [pktCells] at hw0
  rw [← hw0]
  clear hw0 hb0 hz0
  refine (refFirst l 7 10 v _ hl (HV.out.below HB0.out (Nat.le_refl _)) HS.out).mono ?_
  rintro e w2 ⟨rfl, hb2⟩
  have HW2 := Lib.hid hb2
  obtain ⟨c1, c2, c3, c4, c5, c6, c7, bc, hc, hc0, hc1, hc9, hc10⟩ := multiOf_form7 (allM l)
  rw [hc]
  have HC0 := Lib.hid (And.intro hc0 hc1)
  have q11 : w2.cell? ⟨w.heap.size, 11, none⟩ = some v := by
    have h := B1.out.below HW2.out (by have := HZ0.out; omega)
    rw [h.cell 11]; rfl
  have hsz2 : w.heap.size < w2.heap.size := by have := HZ0.out; have := HW2.out.size; omega
  have K3 := Lib.hid (Blk.new w2 #[.int .i64 c1, .int .i64 c2, .int .i64 c3, .int .i64 c4, .int .i64 c5, .int .i64 c6, .string c7] 65)
  have HW3 : Hid (Below w0.heap.size w0 (w2.alloc (.cells #[.int .i64 c1, .int .i64 c2, .int .i64 c3, .int .i64 c4, .int .i64 c5, .int .i64 c6, .string c7] 65))) := Lib.hid (HW2.out.alloc HW2.out.size _)
  clear hc hc0 hc1 hb2
  go_wp2_with fail
  refine (refFirst l 5 5 v _ hl ((HV.out.below HB0.out (Nat.le_refl _)).below HW3.out (Nat.le_refl _)) HS.out).mono ?_
  rintro e w4 ⟨rfl, hb4⟩
  have HB4 := Lib.hid hb4
  have hsz4 : w2.heap.size < w4.heap.size := by have := hb4.size; simp at this; omega
  have K4 := Lib.hid (K3.out.below hb4 (by simp))
  obtain ⟨t1, t2, t3, t4, t5, t6, t7, bt, ht, ht0, ht1⟩ := multiOf_form (firstR (allM l) 5 5)
  rw [ht]
  have q0 : w4.cell? ⟨w2.heap.size, 0, none⟩ = some (.int .i64 c1) := by rw [K4.out.cell 0]; rfl
  have q1 : w4.cell? ⟨w2.heap.size, 1, none⟩ = some (.int .i64 c2) := by rw [K4.out.cell 1]; rfl
  have q2 : w4.cell? ⟨w2.heap.size, 2, none⟩ = some (.int .i64 c3) := by rw [K4.out.cell 2]; rfl
  have q3 : w4.cell? ⟨w2.heap.size, 3, none⟩ = some (.int .i64 c4) := by rw [K4.out.cell 3]; rfl
  have HE : Hid (saysB (allM l) a b side = (knownB a && (bc && (bt && decide (t7 = tagOf a b (controlText side c4 (c1 - 6) c2 c3)))))) := by
    refine saysB_of (c1 := c4) (c2 := c1 - 6) (c3 := c2) (c4 := c3) HC0.out.1 (fun h => ⟨_, HC0.out.2 h, rfl, rfl, rfl, rfl⟩) (fun h => ?_) (fun h => ?_) (t1 := t1) (t2 := t2) (t3 := t3) (t4 := t4) (t5 := t5) (t6 := t6)
    · rw [← firstR_one]; exact ht0 h
    · rw [← firstR_one]; exact ht1 h
  clear hb4 ht ht0 ht1 q11 HC0
  go_wp2_with fail
  obtain ⟨w5, hw5⟩ : ∃ w5, w5 = (w4.alloc (.cells #[.int .i64 t1, .int .i64 t2, .int .i64 t3, .int .i64 t4, .int .i64 t5, .int .i64 t6, .string t7] 65)).alloc (.cells #[.int .i64 c4, .int .i64 (c1 - 6), .int .i64 c2, .int .i64 c3] 80) := ⟨_, rfl⟩
  rw [← hw5]
  have HW5 : Hid (Below w0.heap.size w0 w5) := Lib.hid (by rw [hw5]; exact ((HW3.out.trans (HB4.out.mono (by have := HW2.out.size; simp; omega))).alloc (by have := HW2.out.size; omega) _).alloc (by have := HW2.out.size; simp; omega) _)
  have KT : Hid (Blk w5 w4.heap.size #[.int .i64 t1, .int .i64 t2, .int .i64 t3, .int .i64 t4, .int .i64 t5, .int .i64 t6, .string t7] 65) := Lib.hid (by rw [hw5]; exact (Blk.new _ _ _).alloc _)
  have KC : Hid (Blk w5 (w4.heap.size + 1) #[.int .i64 c4, .int .i64 (c1 - 6), .int .i64 c2, .int .i64 c3] 80) := Lib.hid (by rw [hw5]; exact Blk.new2 _ _ _ _)
  have k2 := cell_regrown (show w5.cell? ⟨w4.heap.size + 1, 0, none⟩ = some (.int .i64 c4) by rw [KC.out.cell 0]; rfl)
  have k3 := cell_regrown (show w5.cell? ⟨w4.heap.size + 1, 1, none⟩ = some (.int .i64 (c1 - 6)) by rw [KC.out.cell 1]; rfl)
  have k4 := cell_regrown (show w5.cell? ⟨w4.heap.size + 1, 2, none⟩ = some (.int .i64 c2) by rw [KC.out.cell 2]; rfl)
  have k5 := cell_regrown (show w5.cell? ⟨w4.heap.size + 1, 3, none⟩ = some (.int .i64 c3) by rw [KC.out.cell 3]; rfl)
  have k6 := cell_regrown (show w5.cell? ⟨w4.heap.size, 6, none⟩ = some (.string t7) by rw [KT.out.cell 6]; rfl)
  have CC := Lib.hid (fun d os => Calls.regrown_of (refControlText side c4 (c1 - 6) c2 c3 (Sort.grow (redrawn w5 d) os)))
  have HCS := Lib.hid (controlText_size side c4 (c1 - 6) c2 c3)
  have HBB : Hid (Below w.heap.size w w5) := Lib.hid (HB0.out.trans (HW5.out.mono (by have := HZ0.out; omega)))
  have hke := HKE.out
  generalize knownB a = kn at *
  clear hw5 HKE q0 q1 q2 q3
  cases kn <;> cases bc <;> cases bt
  all_goals
    refine wp_region_quiet_below (by kernel_rfl) (by kernel_rfl) ?_
    repeat (go_big_quiet_step (first | (go_at_call 37; exact CC.out _ _) | (go_at_call 30; exact ref26TagR _ _ HK.out (by have := HCS.out; omega))))
    refine wpQuiet_nil ?_
    intro w6 hw'
    have hb6 : Below w5.heap.size w5 w6 := by obtain ⟨p, rfl⟩ := hw'; exact below_regrown _ _ _
    clear hw'
    go_wp2_with fail
    go_ret
    exact ⟨ret_bool (by have h := HE.out; simp at h; simp [h, bytes_beq]), bnext HBB.out hb6⟩
end Go.Proofs.YtjboillkhhefaaaGreatDoor
