/- The reference's ControlText (26). -/
import Derived.Test.YtjboillkhhefaaaGreatDoorRefk
set_option linter.unusedVariables false
namespace Go.Proofs.YtjboillkhhefaaaGreatDoor
open Go.RowKit

theorem later2 {w wx : World} (hb : Below w.heap.size w wx) {p q : Addr} {u v : Value} (h : w.cell? p = some u ∧ w.cell? q = some v) : wx.cell? p = some u ∧ wx.cell? q = some v :=
  ⟨cell_later hb h.1, cell_later hb h.2⟩
theorem later3 {w wx : World} (hb : Below w.heap.size w wx) {p q r : Addr} {u v x : Value} (h : w.cell? p = some u ∧ w.cell? q = some v ∧ w.cell? r = some x) : wx.cell? p = some u ∧ wx.cell? q = some v ∧ wx.cell? r = some x :=
  ⟨cell_later hb h.1, later2 hb h.2⟩
theorem later4 {w wx : World} (hb : Below w.heap.size w wx) {p q r s : Addr} {u v x y : Value} (h : w.cell? p = some u ∧ w.cell? q = some v ∧ w.cell? r = some x ∧ w.cell? s = some y) : wx.cell? p = some u ∧ wx.cell? q = some v ∧ wx.cell? r = some x ∧ wx.cell? s = some y :=
  ⟨cell_later hb h.1, later3 hb h.2⟩

set_option maxRecDepth 100000 in
set_option maxHeartbeats 1000000 in
theorem refControlText (side num kind addr prio : Int) (w : World) :
    Calls Tryz.prog 37 #[.int .i64 side, .agg #[.int .i64 num, .int .i64 kind, .int .i64 addr, .int .i64 prio]] w fun e w' => e = .returned (.string (controlText side num kind addr prio)) ∧ Below w.heap.size w w' := by
  have z1 : (⟨#[2]⟩ ++ beB 1 (u64 side) : ByteArray).size = 2 := by rw [ByteArray.size_append, beB_size]; rfl
  have z2 : (⟨#[2]⟩ ++ beB 1 (u64 side) ++ beB 4 (u64 num) : ByteArray).size = 6 := by rw [ByteArray.size_append, z1, beB_size]
  have z3 : (⟨#[2]⟩ ++ beB 1 (u64 side) ++ beB 4 (u64 num) ++ beB 1 (u64 kind) : ByteArray).size = 7 := by rw [ByteArray.size_append, z2, beB_size]
  have z4 : (⟨#[2]⟩ ++ beB 1 (u64 side) ++ beB 4 (u64 num) ++ beB 1 (u64 kind) ++ beB 1 (u64 addr) : ByteArray).size = 8 := by rw [ByteArray.size_append, z3, beB_size]
  have HT : Hid (controlText side num kind addr prio = ⟨#[2]⟩ ++ beB 1 (u64 side) ++ beB 4 (u64 num) ++ beB 1 (u64 kind) ++ beB 1 (u64 addr) ++ beB 1 (u64 prio)) := Lib.hid (by
    have e : ∀ x : ByteArray, joinB [x] = x := fun x => empty_app _
    rw [controlText, tagText, e, show (⟨#[2]⟩ : ByteArray) = beB 1 (u64 2) from one_be 2 (by omega)]
    simp only [app_assoc])
  have s1 : (⟨#[2]⟩ : ByteArray).size ≤ 1099511627776 := by show 1 ≤ _; omega
  have s2 : (⟨#[2]⟩ ++ beB 1 (u64 side) : ByteArray).size ≤ 1099511627776 := by omega
  have s3 : (⟨#[2]⟩ ++ beB 1 (u64 side) ++ beB 4 (u64 num) : ByteArray).size ≤ 1099511627776 := by omega
  have s4 : (⟨#[2]⟩ ++ beB 1 (u64 side) ++ beB 4 (u64 num) ++ beB 1 (u64 kind) : ByteArray).size ≤ 1099511627776 := by omega
  have s5 : (⟨#[2]⟩ ++ beB 1 (u64 side) ++ beB 4 (u64 num) ++ beB 1 (u64 kind) ++ beB 1 (u64 addr) : ByteArray).size ≤ 1099511627776 := by omega
  clear z1 z2 z3 z4
  go_enter Tryz.func37, Tryz.ntmps37
  go_wp2_with fail
  obtain ⟨w0, hw0⟩ : ∃ w0, w0 = w.alloc (.cells #[.int .i64 num, .int .i64 kind, .int .i64 addr, .int .i64 prio] 80) := ⟨_, rfl⟩
  rw [← hw0]
  have B0 : Blk w0 w.heap.size #[.int .i64 num, .int .i64 kind, .int .i64 addr, .int .i64 prio] 80 := by rw [hw0]; exact Blk.new _ _ _
  have hb0 : Below w.heap.size w w0 := by rw [hw0]; exact (Below.refl _ _).alloc (Nat.le_refl _) _
  have q0 : w0.cell? ⟨w.heap.size, 0, none⟩ = some (.int .i64 num) := B0.cell 0
  have q1 : w0.cell? ⟨w.heap.size, 1, none⟩ = some (.int .i64 kind) := B0.cell 1
  have q2 : w0.cell? ⟨w.heap.size, 2, none⟩ = some (.int .i64 addr) := B0.cell 2
  have q3 : w0.cell? ⟨w.heap.size, 3, none⟩ = some (.int .i64 prio) := B0.cell 3
  have PK := Lib.hid (And.intro HT hb0)
  clear hw0 HT hb0 B0
  go_region_held3 (fun w' => w'.cell? ⟨w.heap.size, 0, none⟩ = some (.int .i64 num) ∧ w'.cell? ⟨w.heap.size, 1, none⟩ = some (.int .i64 kind) ∧ w'.cell? ⟨w.heap.size, 2, none⟩ = some (.int .i64 addr) ∧ w'.cell? ⟨w.heap.size, 3, none⟩ = some (.int .i64 prio)) (first | (with_reducible assumption) | exact ⟨q0, q1, q2, q3⟩ | (refine later4 (by with_reducible assumption) ?_; (first | (with_reducible assumption) | exact ⟨q0, q1, q2, q3⟩))) (first | (go_at_call 70; refine (ref26put _ _ _ _ (by with_reducible assumption) (by omega) (by omega)).mono ?_; rintro e w2 ⟨rfl, hb2⟩))
  all_goals
    go_wp2_with fail
    go_ret
    exact ⟨ret_str (by rw [PK.out.1.out]), bnext (bnext (bnext (bnext (bnext PK.out.2.drew (by with_reducible assumption)) (by with_reducible assumption)) (by with_reducible assumption)) (by with_reducible assumption)) (by with_reducible assumption)⟩
end Go.Proofs.YtjboillkhhefaaaGreatDoor
