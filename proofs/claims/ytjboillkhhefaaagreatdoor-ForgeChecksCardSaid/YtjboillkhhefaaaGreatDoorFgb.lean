/- The program's package forge: Says, Hears. -/
import Derived.Test.YtjboillkhhefaaaGreatDoorFga
import Derived.Lib.QuietBelow
set_option linter.unusedVariables false
namespace Go.Proofs.YtjboillkhhefaaaGreatDoor
open Go.RowKit

theorem bytes_beq (x y : ByteArray) : (x.toList == y.toList) = decide (x = y) := by
  rw [Bool.eq_iff_iff, beq_iff_eq, decide_eq_true_iff]
  constructor
  · intro h
    rw [ByteArray.toList_eq, ByteArray.toList_eq] at h
    exact bytes_ext h
  · rintro rfl; rfl
/-- A packet but for its options and data. -/
structure PktV where
  kind : Int
  long : Bool
  src : Int
  dst : Int
  ccval : Int
  cover : Int
  seq : Int
  ack : Int
  service : Int
  code : Int
  detail : Int
def pktCells (p : PktV) (v : Value) (data : ByteArray) : Array Value := #[.int .i64 p.kind, .bool p.long, .int .i64 p.src, .int .i64 p.dst, .int .i64 p.ccval, .int .i64 p.cover, .int .i64 p.seq, .int .i64 p.ack, .int .i64 p.service, .int .i64 p.code, .int .i64 p.detail, v, .string data]
/-- Are keys known? -/
def knownB (a : ByteArray) : Bool := decide (a.size ≠ 0)
theorem keysKnown (a b : ByteArray) (w : World) (hk : KeyPair a b) :
    Calls Tryz.prog 35 #[.agg #[.string a, .string b]] w fun e w' => e = .returned (.bool (knownB a)) ∧ Below w.heap.size w w' := by
  rcases hk with ⟨h1, h2⟩ | ⟨rfl, rfl⟩
  · rw [show knownB a = true by unfold knownB; rw [h1]; rfl]
    exact keysKnown_yes a b w h1
  · exact keysKnown_no w
/-- What control messages, and options, are, as values. -/
theorem ctlOf_form (o : Option MultiV) : ∃ (c1 c2 c3 c4 : Int) (bc : Bool), ctlOf o = .tuple #[.agg #[.int .i64 c1, .int .i64 c2, .int .i64 c3, .int .i64 c4], .bool bc] ∧ (bc = false → o = none) ∧ (bc = true → ∃ m, o = some m ∧ c1 = m.num ∧ c2 = m.kind - 6 ∧ c3 = m.addr ∧ c4 = m.prio) := by
  cases o with
  | none => exact ⟨0, 0, 0, 0, false, rfl, fun _ => rfl, fun h => by cases h⟩
  | some m => exact ⟨_, _, _, _, true, rfl, fun h => by (cases h), fun _ => ⟨m, rfl, rfl, rfl, rfl, rfl⟩⟩
theorem multiOf_form (o : Option MultiV) : ∃ (m1 m2 m3 m4 m5 m6 : Int) (m7 : ByteArray) (bt : Bool), multiOf o = .tuple #[.agg #[.int .i64 m1, .int .i64 m2, .int .i64 m3, .int .i64 m4, .int .i64 m5, .int .i64 m6, .string m7], .bool bt] ∧ (bt = false → o = none) ∧ (bt = true → o = some ⟨m1, m2, m3, m4, m5, m6, m7⟩) := by
  cases o with
  | none => exact ⟨0, 0, 0, 0, 0, 0, ⟨#[]⟩, false, rfl, fun _ => rfl, fun h => by cases h⟩
  | some m => exact ⟨_, _, _, _, _, _, _, true, rfl, fun h => by (cases h), fun _ => rfl⟩
def saysB (ms : List MultiV) (a b : ByteArray) (side : Int) : Bool := match firstC ms, firstM ms 5 with
  | some c, some t => knownB a && (decide (t.bytes = tagOf a b (controlText side c.num (c.kind - 6) c.addr c.prio)))
  | _, _ => false
def hearsB (ms : List MultiV) (a b : ByteArray) (side : Int) : Bool := match firstM ms 0 with
  | some t => knownB a && (decide (t.bytes = tagOf a b (confirmText side t.num)))
  | none => false

theorem saysB_of {ms : List MultiV} {a b : ByteArray} {side : Int} {c1 c2 c3 c4 : Int} {bc : Bool} {t1 t2 t3 t4 t5 t6 : Int} {t7 : ByteArray} {bt : Bool} (hc0 : bc = false → firstC ms = none) (hc1 : bc = true → ∃ m, firstC ms = some m ∧ c1 = m.num ∧ c2 = m.kind - 6 ∧ c3 = m.addr ∧ c4 = m.prio)
    (ht0 : bt = false → firstM ms 5 = none) (ht1 : bt = true → firstM ms 5 = some ⟨t1, t2, t3, t4, t5, t6, t7⟩) : saysB ms a b side = (knownB a && (bc && (bt && (decide (t7 = tagOf a b (controlText side c1 c2 c3 c4)))))) := by
  unfold saysB
  cases bc with
  | false => rw [hc0 rfl]; simp
  | true =>
    obtain ⟨m, hm, rfl, rfl, rfl, rfl⟩ := hc1 rfl
    cases bt with
    | false => rw [hm, ht0 rfl]; simp
    | true => rw [hm, ht1 rfl]; simp
theorem hearsB_of {ms : List MultiV} {a b : ByteArray} {side : Int} {t1 t2 t3 t4 t5 t6 : Int} {t7 : ByteArray} {bt : Bool}
    (ht0 : bt = false → firstM ms 0 = none) (ht1 : bt = true → firstM ms 0 = some ⟨t1, t2, t3, t4, t5, t6, t7⟩) : hearsB ms a b side = (knownB a && (bt && (decide (t7 = tagOf a b (confirmText side t4))))) := by
  unfold hearsB
  cases bt with
  | false => rw [ht0 rfl]; simp
  | true => rw [ht1 rfl]; simp

set_option maxRecDepth 100000 in
set_option maxHeartbeats 1000000 in
theorem forgeSays (a b : ByteArray) (side : Int) (pk : PktV) (l : List OptV) (v : Value) (data : ByteArray) (w : World) (hk : KeyPair a b) (hl : l.length ≤ 1000) (hv : OptsAt w v l) (hs : ∀ o ∈ l, o.value.size ≤ 1099511627776) :
    Calls Tryz.prog 13 #[.agg #[.string a, .string b], .int .i64 side, .agg (pktCells pk v data)] w fun e w' => e = .returned (.bool (saysB (allM l) a b side)) ∧ Below w.heap.size w w' := by
  have HK := Lib.hid hk
  have HV := Lib.hid hv
  have HS := Lib.hid hs
  clear hk hv hs
  have hle : (allM l).length ≤ 1000 := Nat.le_trans (allM_le l) hl
  obtain ⟨p1, p2, p3, p4, p5, p6, p7, p8, p9, p10, p11⟩ := pk
  simp only [pktCells]
  go_enter Tryz.func13, Tryz.ntmps13
  go_wp2_with fail
  obtain ⟨w0, hw0⟩ : ∃ w0, w0 = (w.alloc (.cells #[.string a, .string b] 27)).alloc (.cells (pktCells ⟨p1, p2, p3, p4, p5, p6, p7, p8, p9, p10, p11⟩ v data) 31) := ⟨_, rfl⟩
  have B0 : Hid (Blk w0 w.heap.size #[.string a, .string b] 27) := Lib.hid (by rw [hw0]; exact (Blk.new w _ _).alloc _)
  have B1 : Hid (Blk w0 (w.heap.size + 1) (pktCells ⟨p1, p2, p3, p4, p5, p6, p7, p8, p9, p10, p11⟩ v data) 31) := Lib.hid (by rw [hw0]; exact Blk.new2 w _ _ _)
  have hb0 : Below w.heap.size w w0 := by rw [hw0]; exact ((Below.refl _ _).alloc (Nat.le_refl _) _).alloc (by simp) _
  have HB0 := Lib.hid hb0
  have hz0 : w.heap.size + 1 + 1 = w0.heap.size := by rw [hw0]; simp
  have HZ0 := Lib.hid hz0
  simp only [pktCells] at hw0
  rw [← hw0]
  clear hw0 hb0 hz0
  refine (mpAll l v _ hl (HV.out.below HB0.out (Nat.le_refl _)) HS.out).mono ?_
  rintro e w1 ⟨v1, rfl, hm1, hb1⟩
  have HM1 := Lib.hid hm1
  have HB1 := Lib.hid hb1
  clear hm1 hb1
  go_wp2_with fail
  refine (forgeControl w0.heap.size (allM l) v1 _ HB1.out.size hle HM1.out).mono ?_
  rintro e w2 ⟨rfl, hb2⟩
  have HB2 := Lib.hid hb2
  clear hb2 HM1
  have HW2 : Hid (Below w0.heap.size w0 w2) := Lib.hid (bnext HB1.out HB2.out)
  obtain ⟨c1, c2, c3, c4, bc, hc, hc0, hc1⟩ := ctlOf_form (firstC (allM l))
  rw [hc]
  have HC0 := Lib.hid hc0
  have HC1 := Lib.hid hc1
  have q11 : w2.cell? ⟨w.heap.size + 1, 11, none⟩ = some v := by
    have h := B1.out.below HW2.out (by have := HZ0.out; omega)
    rw [h.cell 11]; rfl
  have hsz2 : w.heap.size + 1 < w2.heap.size := by have := HZ0.out; have := HW2.out.size; omega
  have K3 := Lib.hid (Blk.new w2 #[.int .i64 c1, .int .i64 c2, .int .i64 c3, .int .i64 c4] 80)
  have HW3 : Hid (Below w0.heap.size w0 (w2.alloc (.cells #[.int .i64 c1, .int .i64 c2, .int .i64 c3, .int .i64 c4] 80))) := Lib.hid (HW2.out.alloc HW2.out.size _)
  clear hc hc0 hc1 HB1 HB2
  go_wp2_with fail
  refine (mpFind l 5 v _ hl ((HV.out.below HB0.out (Nat.le_refl _)).below HW3.out (Nat.le_refl _)) HS.out).mono ?_
  rintro e w4 ⟨rfl, hb4⟩
  have HB4 := Lib.hid hb4
  have hsz4 : w2.heap.size + 1 ≤ w4.heap.size := by have := hb4.size; simpa using this
  obtain ⟨t1, t2, t3, t4, t5, t6, t7, bt, ht, ht0, ht1⟩ := multiOf_form (firstM (allM l) 5)
  rw [ht]
  have HT0 := Lib.hid ht0
  have HT1 := Lib.hid ht1
  clear hb4 ht ht0 ht1 q11
  go_wp2_with fail
  obtain ⟨w5, hw5⟩ : ∃ w5, w5 = w4.alloc (.cells #[.int .i64 t1, .int .i64 t2, .int .i64 t3, .int .i64 t4, .int .i64 t5, .int .i64 t6, .string t7] 65) := ⟨_, rfl⟩
  rw [← hw5]
  have HW5 : Hid (Below w0.heap.size w0 w5) := Lib.hid (by rw [hw5]; exact (HW3.out.trans (HB4.out.mono (by have := HW2.out.size; simp; omega))).alloc (by have := HW2.out.size; omega) _)
  have KP : Hid (Blk w5 w.heap.size #[.string a, .string b] 27) := Lib.hid (B0.out.below HW5.out B0.out.lt)
  have KC : Hid (Blk w5 w2.heap.size #[.int .i64 c1, .int .i64 c2, .int .i64 c3, .int .i64 c4] 80) := Lib.hid (by rw [hw5]; exact (K3.out.below HB4.out (by simp)).alloc _)
  have KT : Hid (Blk w5 w4.heap.size #[.int .i64 t1, .int .i64 t2, .int .i64 t3, .int .i64 t4, .int .i64 t5, .int .i64 t6, .string t7] 65) := Lib.hid (by rw [hw5]; exact Blk.new _ _ _)
  have k0 := cell_regrown (show w5.cell? ⟨w.heap.size, 0, none⟩ = some (.string a) by rw [KP.out.cell 0]; rfl)
  have k1 := cell_regrown (show w5.cell? ⟨w.heap.size, 1, none⟩ = some (.string b) by rw [KP.out.cell 1]; rfl)
  have k2 := cell_regrown (show w5.cell? ⟨w2.heap.size, 0, none⟩ = some (.int .i64 c1) by rw [KC.out.cell 0]; rfl)
  have k3 := cell_regrown (show w5.cell? ⟨w2.heap.size, 1, none⟩ = some (.int .i64 c2) by rw [KC.out.cell 1]; rfl)
  have k4 := cell_regrown (show w5.cell? ⟨w2.heap.size, 2, none⟩ = some (.int .i64 c3) by rw [KC.out.cell 2]; rfl)
  have k5 := cell_regrown (show w5.cell? ⟨w2.heap.size, 3, none⟩ = some (.int .i64 c4) by rw [KC.out.cell 3]; rfl)
  have k6 := cell_regrown (show w5.cell? ⟨w4.heap.size, 6, none⟩ = some (.string t7) by rw [KT.out.cell 6]; rfl)
  have CN := Lib.hid (fun d os => Calls.regrown_of (keysKnown a b (Sort.grow (redrawn w5 d) os) HK.out))
  have CC := Lib.hid (fun d os => Calls.regrown_of (keysControl a b side c1 c2 c3 c4 (Sort.grow (redrawn w5 d) os) HK.out))
  have HBB : Hid (Below w.heap.size w w5) := Lib.hid (HB0.out.trans (HW5.out.mono (by have := HZ0.out; omega)))
  have HE := Lib.hid (saysB_of (a := a) (b := b) (side := side) HC0.out HC1.out HT0.out HT1.out)
  generalize knownB a = kn at *
  clear hw5 HC0 HC1 HT0 HT1
  cases kn <;> cases bc <;> cases bt
  all_goals
    refine wp_region_quiet_below (by kernel_rfl) (by kernel_rfl) ?_
    repeat (go_big_quiet_step (first | (go_at_call 35; exact CN.out _ _) | (go_at_call 36; exact CC.out _ _)))
    refine wpQuiet_nil ?_
    intro w6 hw'
    have hb6 : Below w5.heap.size w5 w6 := by obtain ⟨p, rfl⟩ := hw'; exact below_regrown _ _ _
    clear hw'
    go_wp2_with fail
    go_ret
    exact ⟨ret_bool (by have h := HE.out; simp at h; simp [h, bytes_beq]), bnext HBB.out hb6⟩

set_option maxRecDepth 100000 in
set_option maxHeartbeats 1000000 in
theorem forgeHears (a b : ByteArray) (side : Int) (pk : PktV) (l : List OptV) (v : Value) (data : ByteArray) (w : World) (hk : KeyPair a b) (hl : l.length ≤ 1000) (hv : OptsAt w v l) (hs : ∀ o ∈ l, o.value.size ≤ 1099511627776) :
    Calls Tryz.prog 15 #[.agg #[.string a, .string b], .int .i64 side, .agg (pktCells pk v data)] w fun e w' => e = .returned (.bool (hearsB (allM l) a b side)) ∧ Below w.heap.size w w' := by
  have HK := Lib.hid hk
  have HV := Lib.hid hv
  have HS := Lib.hid hs
  clear hk hv hs
  obtain ⟨p1, p2, p3, p4, p5, p6, p7, p8, p9, p10, p11⟩ := pk
  simp only [pktCells]
  go_enter Tryz.func15, Tryz.ntmps15
  go_wp2_with fail
  obtain ⟨w0, hw0⟩ : ∃ w0, w0 = (w.alloc (.cells #[.string a, .string b] 27)).alloc (.cells (pktCells ⟨p1, p2, p3, p4, p5, p6, p7, p8, p9, p10, p11⟩ v data) 31) := ⟨_, rfl⟩
  have B0 : Hid (Blk w0 w.heap.size #[.string a, .string b] 27) := Lib.hid (by rw [hw0]; exact (Blk.new w _ _).alloc _)
  have hb0 : Below w.heap.size w w0 := by rw [hw0]; exact ((Below.refl _ _).alloc (Nat.le_refl _) _).alloc (by simp) _
  have HB0 := Lib.hid hb0
  have hz0 : w.heap.size + 1 + 1 = w0.heap.size := by rw [hw0]; simp
  have HZ0 := Lib.hid hz0
  simp only [pktCells] at hw0
  rw [← hw0]
  clear hw0 hb0 hz0
  refine (mpFind l 0 v _ hl (HV.out.below HB0.out (Nat.le_refl _)) HS.out).mono ?_
  rintro e w4 ⟨rfl, hb4⟩
  have HB4 := Lib.hid hb4
  have hsz4 := hb4.size
  obtain ⟨t1, t2, t3, t4, t5, t6, t7, bt, ht, ht0, ht1⟩ := multiOf_form (firstM (allM l) 0)
  rw [ht]
  have HT0 := Lib.hid ht0
  have HT1 := Lib.hid ht1
  clear hb4 ht ht0 ht1
  go_wp2_with fail
  obtain ⟨w5, hw5⟩ : ∃ w5, w5 = w4.alloc (.cells #[.int .i64 t1, .int .i64 t2, .int .i64 t3, .int .i64 t4, .int .i64 t5, .int .i64 t6, .string t7] 65) := ⟨_, rfl⟩
  rw [← hw5]
  have HW5 : Hid (Below w0.heap.size w0 w5) := Lib.hid (by rw [hw5]; exact HB4.out.alloc hsz4 _)
  have KP : Hid (Blk w5 w.heap.size #[.string a, .string b] 27) := Lib.hid (B0.out.below HW5.out B0.out.lt)
  have KT : Hid (Blk w5 w4.heap.size #[.int .i64 t1, .int .i64 t2, .int .i64 t3, .int .i64 t4, .int .i64 t5, .int .i64 t6, .string t7] 65) := Lib.hid (by rw [hw5]; exact Blk.new _ _ _)
  have k0 := cell_regrown (show w5.cell? ⟨w.heap.size, 0, none⟩ = some (.string a) by rw [KP.out.cell 0]; rfl)
  have k1 := cell_regrown (show w5.cell? ⟨w.heap.size, 1, none⟩ = some (.string b) by rw [KP.out.cell 1]; rfl)
  have k3 := cell_regrown (show w5.cell? ⟨w4.heap.size, 3, none⟩ = some (.int .i64 t4) by rw [KT.out.cell 3]; rfl)
  have k6 := cell_regrown (show w5.cell? ⟨w4.heap.size, 6, none⟩ = some (.string t7) by rw [KT.out.cell 6]; rfl)
  have CN := Lib.hid (fun d os => Calls.regrown_of (keysKnown a b (Sort.grow (redrawn w5 d) os) HK.out))
  have CC := Lib.hid (fun d os => Calls.regrown_of (keysConfirm a b side t4 (Sort.grow (redrawn w5 d) os) HK.out))
  have HBB : Hid (Below w.heap.size w w5) := Lib.hid (HB0.out.trans (HW5.out.mono (by have := HZ0.out; omega)))
  have HE := Lib.hid (hearsB_of (a := a) (b := b) (side := side) HT0.out HT1.out)
  generalize knownB a = kn at *
  clear hw5 HT0 HT1
  cases kn <;> cases bt
  all_goals
    refine wp_region_quiet_below (by kernel_rfl) (by kernel_rfl) ?_
    repeat (go_big_quiet_step (first | (go_at_call 35; exact CN.out _ _) | (go_at_call 38; exact CC.out _ _)))
    refine wpQuiet_nil ?_
    intro w6 hw'
    have hb6 : Below w5.heap.size w5 w6 := by obtain ⟨p, rfl⟩ := hw'; exact below_regrown _ _ _
    clear hw'
    go_wp2_with fail
    go_ret
    exact ⟨ret_bool (by have h := HE.out; simp at h; simp [h, bytes_beq]), bnext HBB.out hb6⟩
end Go.Proofs.YtjboillkhhefaaaGreatDoor
