/- The program's package sha: texts, and sums of pieces. -/
import Derived.Test.YtjboillkhhefaaaGreatDoorShb
set_option linter.unusedVariables false
namespace Go.Proofs.YtjboillkhhefaaaGreatDoor
open Go.RowKit

/-! ### The state as bytes, and the sum of pieces -/
set_option maxRecDepth 100000 in
set_option maxHeartbeats 400000 in
theorem octPut32 (s : ByteArray) (n : Nat) (w : World) (hs : s.size ≤ 1099511627776) (hn : (n : Int) < 4294967296) :
    Calls Tryz.prog 184 #[.string s, .int .u32 n, .int .i64 4] w fun e w' => e = .returned (.string (s ++ beB 4 n)) ∧ Below w.heap.size w w' := by
  obtain ⟨ii, hi, hz0, hz1, hz2⟩ := info_parts info_u8
  have hu : u64 n = n := u64_cast n (by omega)
  go_enter Tryz.func184, Tryz.ntmps184
  go_wp2_with (first | (refine wpList_toBytes rfl 9 60 _ rfl 5 s w.heap.size rfl (Nat.le_refl _) Tryz.underlying9 Tryz.underlying60 Tryz.underlying5 (by unfold maxLen; omega) ?_; intro v w1 hrow hb))
  go_loopw [7, 8] (fun b i wr => ∃ k : Nat, k ≤ 4 ∧ i = .int .i64 ((k : Int) - 1) ∧ ByteRow 5 w.heap.size wr b (s.data.toList ++ be (4 - k) (n / 256 ^ k)) ∧ Below w.heap.size w wr) (fun _ i _ => (intOf i + 1).toNat)
  case atStart => exact ⟨4, Nat.le_refl _, rfl, by simpa [be] using hrow, hb⟩
  case round =>
    obtain ⟨k, hk, rfl, hrow', hb'⟩ := hrel
    have hB := hb'.size
    have hlen : (s.data.toList ++ be (4 - k) (n / 256 ^ k)).length + 1 ≤ 140737488355328 := by
      have e : s.data.toList.length = s.size := rfl
      rw [List.length_append, be_length, e]; omega
    have HU := Lib.hid hu
    clear hu
    cases k with
    | zero =>
      go_wp2_with (first | (refine wpList_toString rfl 60 9 _ rfl 5 w.heap.size u7 _ rfl hrow' Tryz.underlying60 Tryz.underlying5 Tryz.underlying9 ?_))
      go_ret
      refine ⟨?_, hb'⟩
      rw [beB, ← mk_append]; simp
    | succ k =>
      rw [show (((k + 1 : Nat) : Int) - 1) = (k : Int) from by omega]
      have HS := Lib.hid (put_step s n 4 k hk)
      have HB := Lib.hid (byte_at n k)
      go_wp2_with (first | (at_builtin; refine wpList_append_byte rfl _ _ 60 rfl 5 ii Tryz.underlying60 hi hz0 hz1 hz2 w.heap.size u7 _ rfl (hrow'.alloc _) ?c0 _ _ (UInt8.ofNat (n / 256 ^ k % 256)) rfl ?c1 hlen ?_; rotate_left 2; intro b' w2 hrow2 hb2))
      case c0 => simp; omega
      case c1 =>
        have h1 := HB.out
        rw [wrap_u64, HU.out] at h1
        rw [h1]; simp
      go_roundw
      case rel => exact ⟨k, by omega, by go_num, HS.out ▸ hrow2, (hb'.alloc hB _).trans hb2⟩
      case measure => simp [intOf]

def shaTextTo (h : List Nat) (k : Nat) : ByteArray := (h.take k).foldl (fun s n => s ++ beB 4 n) ⟨#[]⟩
theorem shaTextTo_succ (h : List Nat) (k : Nat) (hk : k < h.length) : shaTextTo h (k + 1) = shaTextTo h k ++ beB 4 (h.getD k 0) := by
  unfold shaTextTo
  rw [List.take_succ_eq_append_getElem hk, List.foldl_append]
  simp [List.getD, hk]
theorem shaTextTo_size (h : List Nat) (k : Nat) (hk : k ≤ h.length) : (shaTextTo h k).size = 4 * k := by
  induction k with
  | zero => rfl
  | succ k ih => rw [shaTextTo_succ h k (by omega), ByteArray.size_append, ih (by omega), beB_size]; omega

set_option maxRecDepth 100000 in
set_option maxHeartbeats 400000 in
theorem shaTextOf (h : List Nat) (w : World) (hh : h.length = 8) (hl : Lt32 h) :
    Calls Tryz.prog 177 #[.agg (u32s h)] w fun e w' => e = .returned (.string (shaText h)) ∧ Below w.heap.size w w' := by
  have H8 := Lib.hid hh
  have HL := Lib.hid hl
  clear hh hl
  go_enter Tryz.func177, Tryz.ntmps177
  go_wp2_with (first | (refine wpList_load_blk rfl 261 _ rfl w.heap.size rfl 261 (u32s h) _ (Blk.new w _ _) Tryz.underlying261 rfl (by rw [u32s_size, H8.out]; kernel_rfl) ?_))
  go_loopw [3, 7] (fun a c wr => ∃ k : Nat, k ≤ 8 ∧ a = .string (shaTextTo h k) ∧ c = .int .i64 k ∧ Below w.heap.size w wr) (fun _ c _ => 8 - (intOf c).toNat)
  case atStart => exact ⟨0, by omega, rfl, rfl, (Below.refl _ _).alloc (Nat.le_refl _) _⟩
  case round =>
    obtain ⟨k, hk, rfl, rfl, hb⟩ := hrel
    by_cases hlt : k < 8
    · have hk8 : (k : Int) < 8 := by omega
      have hsz := shaTextTo_size h k (by rw [H8.out]; omega)
      have HS := Lib.hid (shaTextTo_succ h k (by rw [H8.out]; omega))
      have hsz' : (shaTextTo h k).size ≤ 1099511627776 := by omega
      have hd := HL.out.getD k
      clear hsz
      go_wp2_with (first | (refine wpList_index_u32s rfl 261 _ _ rfl 54 8 h k rfl rfl Tryz.underlying261 (by kernel_rfl) (fun _ => by kernel_rfl) H8.out hlt ?_) | (go_at_call 184; refine (octPut32 _ _ _ hsz' (by simp at hd; omega)).mono ?_; rintro e w2 ⟨rfl, hb2⟩))
      go_roundw
      case rel => exact ⟨k + 1, by omega, by rw [HS.out]; rfl, by go_num, hb.trans (hb2.mono hb.size)⟩
      case measure => simp [intOf]; omega
    · obtain rfl : k = 8 := by omega
      go_wp2_with fail
      go_ret
      refine ⟨ret_str ?_, hb⟩
      unfold shaTextTo shaText
      rw [List.take_of_length_le (by rw [H8.out]; omega)]

end Go.Proofs.YtjboillkhhefaaaGreatDoor
