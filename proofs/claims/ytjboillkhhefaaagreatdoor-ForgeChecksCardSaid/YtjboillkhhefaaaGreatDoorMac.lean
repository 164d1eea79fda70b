/- The program's package mac. -/
import Derived.Test.YtjboillkhhefaaaGreatDoorShf
import Derived.Test.YtjboillkhhefaaaGreatDoorMacSpec
set_option linter.unusedVariables false
namespace Go.Proofs.YtjboillkhhefaaaGreatDoor
open Go.RowKit

theorem ByteRow.store {e B w l g n cap} (h : ByteRow e B w (.slice (some ⟨g, 0, none⟩) n cap) l) (i : Nat) (b : UInt8) (hi : i < l.length) :
    ByteRow e B (w.setCell ⟨g, i, none⟩ (.int .u8 b.toNat)) (.slice (some ⟨g, 0, none⟩) n cap) (l.set i b) := by
  obtain ⟨g', cap', cur, fr, hv, hB, hg, hfr, hl, hm, hs, ht⟩ := h
  simp only [Value.slice.injEq, Option.some.injEq, Addr.mk.injEq, and_true] at hv
  obtain ⟨rfl, rfl, rfl⟩ := hv
  refine ⟨g, cap, cur.setIfInBounds i (.int .u8 b.toNat), fr, by simp, hB, ?_, by simpa using hfr, by simpa using hl, hm, by simpa using hs, ?_⟩
  · simp only [World.setCell, Array.getElem?_modify, hg]
    simp
  · rw [Array.toList_setIfInBounds, List.length_set]
    rw [List.take_set, ht]
    simp [bvals, List.map_set]

theorem turn_set (l : List UInt8) (n : UInt8) (k : Nat) (hk : k < l.length) :
    ((l.take k).map (fun c => c ^^^ n) ++ l.drop k).set k (l.getD k 0 ^^^ n) = (l.take (k + 1)).map (fun c => c ^^^ n) ++ l.drop (k + 1) := by
  have h1 : ((l.take k).map (fun c => c ^^^ n)).length = k := by simp; omega
  rw [List.set_append_right _ _ (Nat.le_of_eq h1), h1, Nat.sub_self, List.drop_eq_getElem_cons hk, List.set_cons_zero]
  have e : (l.take (k + 1)).map (fun c => c ^^^ n) = (l.take k).map (fun c => c ^^^ n) ++ [l[k] ^^^ n] := by rw [List.take_succ_eq_append_getElem hk, List.map_append]; rfl
  have e2 : l.getD k 0 = l[k] := by simp [List.getD, hk]
  rw [e, e2, List.append_assoc]
  rfl
theorem turn_get (l : List UInt8) (n : UInt8) (k : Nat) (hk : k < l.length) :
    ((l.take k).map (fun c => c ^^^ n) ++ l.drop k).getD k 0 = l.getD k 0 := by
  have h1 : ((l.take k).map (fun c => c ^^^ n)).length = k := by simp; omega
  simp only [List.getD]
  rw [List.getElem?_append_right (Nat.le_of_eq h1), h1, Nat.sub_self, List.getElem?_drop]
  rfl

theorem xor_u8 (a b : UInt8) : bits BinOp.xor IntKind.u8 (a.toNat : Int) (b.toNat : Int) = ((a ^^^ b).toNat : Int) := by
  rw [u8_xor_nat _ _ a.toNat_lt b.toNat_lt]; simp

set_option maxHeartbeats 400000 in
theorem macBy (b : Nat) (c n : UInt8) (w : World) (hc : w.cell? ⟨b, 0, none⟩ = some (.int .u8 n.toNat)) :
    Calls Tryz.prog 176 #[.int .u8 c.toNat, .pointer (some ⟨b, 0, none⟩)] w fun e w' => e = .returned (.int .u8 (c ^^^ n).toNat) ∧ w = w' := by
  go_enter Tryz.func176, Tryz.ntmps176
  go_wp2
  go_ret
  exact ⟨ret_int (xor_u8 c n), rfl⟩

set_option maxHeartbeats 400000 in
theorem macWith (n : UInt8) (w : World) :
    Calls Tryz.prog 146 #[.int .u8 n.toNat] w fun e w' => e = .returned (.func (.func 176) #[] #[.pointer (some ⟨w.heap.size, 0, none⟩)]) ∧ w' = w.alloc (.cells #[.int .u8 n.toNat] 5) := by
  go_enter Tryz.func146, Tryz.ntmps146
  go_wp2
  go_ret
  exact ⟨rfl, rfl⟩

set_option maxRecDepth 100000 in
set_option maxHeartbeats 400000 in
theorem macTurned (b : Nat) (s : ByteArray) (n : UInt8) (w : World) (hs : s.size ≤ 1099511627776) (hc : w.cell? ⟨b, 0, none⟩ = some (.int .u8 n.toNat)) :
    Calls Tryz.prog 145 #[.string s, .func (.func 176) #[] #[.pointer (some ⟨b, 0, none⟩)]] w fun e w' => e = .returned (.string (turnB s n)) ∧ Below w.heap.size w w' := by
  have hlt := World.block_lt_of_cell? _ _ hc
  have HC := Lib.hid hc
  clear hc
  go_enter Tryz.func145, Tryz.ntmps145
  go_wp2_with (first | (refine wpList_toBytes rfl 9 60 _ rfl 5 s w.heap.size rfl (Nat.le_refl _) Tryz.underlying9 Tryz.underlying60 Tryz.underlying5 (by unfold maxLen; omega) ?_; intro v w1 hrow hb; obtain ⟨g, cap, rfl, hg, hg2, hgl, -, -, -⟩ := hrow.cell; have HROW := Lib.hid hrow; have HB := Lib.hid hb; clear hrow hb))
  go_loopw [12] (fun c wr => ∃ k : Nat, k ≤ s.size ∧ c = .int .i64 k ∧ ByteRow 5 w.heap.size wr (.slice (some ⟨g, 0, none⟩) s.size cap) ((s.data.toList.take k).map (fun c => c ^^^ n) ++ s.data.toList.drop k) ∧ Below w.heap.size w wr) (fun c _ => s.size - (intOf c).toNat)
  case atStart => exact ⟨0, Nat.zero_le _, rfl, by simpa using HROW.out, HB.out⟩
  case round =>
    obtain ⟨k, hk, rfl, hrow, hb⟩ := hrel
    by_cases hk2 : k < s.size
    · have hl : k < s.data.toList.length := hk2
      have hlen : ((s.data.toList.take k).map (fun c => c ^^^ n) ++ s.data.toList.drop k).length = s.size := by
        have e : s.data.toList.length = s.size := rfl
        simp only [List.length_append, List.length_map, List.length_take, List.length_drop, e]; omega
      obtain ⟨g', cap', hv, -, hgl2, -, -, hcell, hfro⟩ := hrow.cell
      simp only [Value.slice.injEq, Option.some.injEq, Addr.mk.injEq, and_true] at hv
      obtain ⟨rfl, -, rfl⟩ := hv
      have q := hcell k (by rw [hlen]; exact hk2)
      rw [turn_get _ _ _ hl] at q
      have z := hfro k (by have := hrow; obtain ⟨_, _, _, _, hv2, _, _, _, h5, _⟩ := this; simp only [Value.slice.injEq] at hv2; omega)
      have hS := Lib.hid (hrow.store k (s.data.toList.getD k 0 ^^^ n) (by rw [hlen]; exact hk2))
      have hc2 : wr.cell? ⟨b, 0, none⟩ = some (.int .u8 n.toNat) := (hb.cell (p := ⟨b, 0, none⟩) hlt).trans HC.out
      have HB2 := Lib.hid hb
      have HT := Lib.hid (turn_set s.data.toList n k hl)
      generalize hcc : s.data.toList.getD k 0 = cc at *
      clear hrow hb hcell hfro hlen hl hcc
      go_wp2_with (first | (go_at_call 176; refine (macBy b cc n _ hc2).mono ?_; rintro e w2 ⟨rfl, rfl⟩))
      go_roundw
      case rel => exact ⟨k + 1, by omega, by go_num, by rw [← HT.out]; exact hS.out, HB2.out.setCell hg _⟩
      case measure => simp [intOf]; omega
    · obtain rfl : k = s.size := by omega
      have e : (s.data.toList.take s.size).map (fun c => c ^^^ n) ++ s.data.toList.drop s.size = s.data.toList.map (fun c => c ^^^ n) := by
        have e : s.data.toList.length = s.size := rfl
        rw [List.take_of_length_le (by omega), List.drop_eq_nil_of_le (by omega), List.append_nil]
      rw [e] at hrow
      go_wp2_with (first | (refine wpList_toString rfl 60 9 _ rfl 5 w.heap.size _ _ rfl hrow Tryz.underlying60 Tryz.underlying5 Tryz.underlying9 ?_))
      go_ret
      exact ⟨rfl, hb⟩

end Go.Proofs.YtjboillkhhefaaaGreatDoor
