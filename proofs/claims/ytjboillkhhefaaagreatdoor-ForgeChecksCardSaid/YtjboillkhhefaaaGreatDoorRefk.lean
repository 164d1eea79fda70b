/- The reference's texts that are tagged (26), and its turned bytes (6). -/
import Derived.Test.YtjboillkhhefaaaGreatDoorKeysb
import Derived.Test.YtjboillkhhefaaaGreatDoorRefa
set_option linter.unusedVariables false
namespace Go.Proofs.YtjboillkhhefaaaGreatDoor
open Go.RowKit

theorem refPutI (s : ByteArray) (n m : Int) (w : World) (hs : s.size ≤ 1099511627776) (h0 : 0 ≤ m) (h8 : m ≤ 8) :
    Calls Tryz.prog 126 #[.string s, .int .u64 (IntKind.u64.wrap n), .int .i64 m] w fun e w' => e = .returned (.string (s ++ beB m.toNat (u64 n))) ∧ Below w.heap.size w w' := by
  obtain ⟨k, rfl⟩ : ∃ k : Nat, m = k := ⟨m.toNat, by omega⟩
  rw [wrap_u64]
  exact refPut s (u64 n) k w hs (by omega) (u64_lt n)

set_option maxHeartbeats 400000 in
theorem ref26put (s : ByteArray) (n m : Int) (w : World) (hs : s.size ≤ 1099511627776) (h0 : 0 ≤ m) (h8 : m ≤ 8) :
    Calls Tryz.prog 70 #[.string s, .int .i64 n, .int .i64 m] w fun e w' => e = .returned (.string (s ++ beB m.toNat (u64 n))) ∧ Below w.heap.size w w' := by
  go_enter Tryz.func70, Tryz.ntmps70
  go_wp2_with fail
  refine (refPutI s n m _ hs h0 h8).mono ?_
  rintro e w1 ⟨rfl, hb1⟩
  go_wp2_with fail
  go_ret
  exact ⟨rfl, hb1⟩

theorem one_be (k : Nat) (h : k < 256) : (⟨#[UInt8.ofNat k]⟩ : ByteArray) = beB 1 (u64 (k : Int)) := by
  rw [u64_cast _ (by omega)]
  apply bytes_ext
  simp [beB, be, Nat.mod_eq_of_lt h]

set_option maxHeartbeats 400000 in
theorem refDataText (side num trip : Int) (data : ByteArray) (w : World) (hd : data.size ≤ 1099511000) :
    Calls Tryz.prog 31 #[.int .i64 side, .int .i64 num, .int .i64 trip, .string data] w fun e w' => e = .returned (.string (dataText side num trip data)) ∧ Below w.heap.size w w' := by
  have HT : Hid (dataText side num trip data = ⟨#[1]⟩ ++ beB 1 (u64 side) ++ beB 6 (u64 num) ++ beB 2 (u64 trip) ++ data) := Lib.hid (by
    have e : joinB [beB 6 (u64 num), beB 2 (u64 trip), data] = beB 6 (u64 num) ++ beB 2 (u64 trip) ++ data := by
      show (⟨#[]⟩ : ByteArray) ++ _ ++ _ ++ _ = _
      rw [empty_app]
    rw [dataText, tagText, e, show (⟨#[1]⟩ : ByteArray) = beB 1 (u64 1) from one_be 1 (by omega)]
    simp only [app_assoc])
  have z1 : (⟨#[1]⟩ ++ beB 1 (u64 side) : ByteArray).size = 2 := by rw [ByteArray.size_append, beB_size]; rfl
  have z2 : (⟨#[1]⟩ ++ beB 1 (u64 side) ++ beB 6 (u64 num) : ByteArray).size = 8 := by rw [ByteArray.size_append, z1, beB_size]
  have z3 : (⟨#[1]⟩ ++ beB 1 (u64 side) ++ beB 6 (u64 num) ++ beB 2 (u64 trip) : ByteArray).size = 10 := by rw [ByteArray.size_append, z2, beB_size]
  have HZ := Lib.hid (And.intro z1 (And.intro z2 z3))
  clear z1 z2 z3
  go_enter Tryz.func31, Tryz.ntmps31
  go_wp2_with fail
  refine (ref26put ⟨#[1]⟩ side 1 _ (by show 1 ≤ _; omega) (by omega) (by omega)).mono ?_
  rintro e w1 ⟨rfl, hb1⟩
  rw [show (1 : Int).toNat = 1 from rfl]
  go_wp2_with fail
  refine (ref26put _ num 6 _ (by rw [HZ.out.1]; omega) (by omega) (by omega)).mono ?_
  rintro e w2 ⟨rfl, hb2⟩
  rw [show (6 : Int).toNat = 6 from rfl]
  go_wp2_with fail
  refine (ref26put _ trip 2 _ (by rw [HZ.out.2.1]; omega) (by omega) (by omega)).mono ?_
  rintro e w3 ⟨rfl, hb3⟩
  rw [show (2 : Int).toNat = 2 from rfl]
  have z3 := HZ.out.2.2
  have hcat : ¬ 9223372036854775807 < (⟨#[1]⟩ ++ beB 1 (u64 side) ++ beB 6 (u64 num) ++ beB 2 (u64 trip) : ByteArray).size + data.size := by omega
  generalize (⟨#[1]⟩ ++ beB 1 (u64 side) ++ beB 6 (u64 num) ++ beB 2 (u64 trip) : ByteArray) = t at *
  clear z3
  go_wp2_with fail
  go_ret
  exact ⟨ret_str (by rw [HT.out]), bnext (bnext hb1 hb2) hb3⟩

set_option maxHeartbeats 400000 in
theorem refConfirmText (side num : Int) (w : World) :
    Calls Tryz.prog 39 #[.int .i64 side, .int .i64 num] w fun e w' => e = .returned (.string (confirmText side num)) ∧ Below w.heap.size w w' := by
  have HT : Hid (confirmText side num = ⟨#[3]⟩ ++ beB 1 (u64 side) ++ beB 4 (u64 num)) := Lib.hid (by
    have e : joinB [beB 4 (u64 num)] = beB 4 (u64 num) := empty_app _
    rw [confirmText, tagText, e, show (⟨#[3]⟩ : ByteArray) = beB 1 (u64 3) from one_be 3 (by omega)])
  have z1 : (⟨#[3]⟩ ++ beB 1 (u64 side) : ByteArray).size = 2 := by rw [ByteArray.size_append, beB_size]; rfl
  have HZ := Lib.hid z1
  clear z1
  go_enter Tryz.func39, Tryz.ntmps39
  go_wp2_with fail
  refine (ref26put ⟨#[3]⟩ side 1 _ (by show 1 ≤ _; omega) (by omega) (by omega)).mono ?_
  rintro e w1 ⟨rfl, hb1⟩
  rw [show (1 : Int).toNat = 1 from rfl]
  go_wp2_with fail
  refine (ref26put _ num 4 _ (by rw [HZ.out]; omega) (by omega) (by omega)).mono ?_
  rintro e w2 ⟨rfl, hb2⟩
  rw [show (4 : Int).toNat = 4 from rfl]
  go_wp2_with fail
  go_ret
  exact ⟨ret_str (by rw [HT.out]), bnext hb1 hb2⟩

set_option maxRecDepth 100000 in
set_option maxHeartbeats 400000 in
theorem refTurned (s : ByteArray) (n : UInt8) (w : World) (hs : s.size ≤ 1099511627776) :
    Calls Tryz.prog 125 #[.string s, .int .u8 n.toNat] w fun e w' => e = .returned (.string (turnB s n)) ∧ Below w.heap.size w w' := by
  go_enter Tryz.func125, Tryz.ntmps125
  go_wp2_with fail
  go_loopw [5, 6] (fun t c wr => ∃ k : Nat, k ≤ s.size ∧ t = .string (⟨((s.data.toList.take k).map (fun c => c ^^^ n)).toArray⟩ : ByteArray) ∧ c = .int .i64 k ∧ Below w.heap.size w wr) (fun _ c _ => s.size - (intOf c).toNat)
  case atStart => exact ⟨0, Nat.zero_le _, rfl, rfl, Below.refl _ _⟩
  case round =>
    obtain ⟨k, hk, rfl, rfl, hb⟩ := hrel
    have e0 : s.data.toList.length = s.size := rfl
    have hz : (⟨((s.data.toList.take k).map (fun c => c ^^^ n)).toArray⟩ : ByteArray).size = k := by
      show (((s.data.toList.take k).map (fun c => c ^^^ n)).toArray).size = k
      simp; omega
    have HB := Lib.hid hb
    by_cases hlt : k < s.size
    · have HJ : Hid ((⟨((s.data.toList.take (k + 1)).map (fun c => c ^^^ n)).toArray⟩ : ByteArray) = (⟨((s.data.toList.take k).map (fun c => c ^^^ n)).toArray⟩ : ByteArray) ++ ⟨#[s[k] ^^^ n]⟩) := Lib.hid (by
        apply bytes_ext
        rw [List.take_succ_eq_append_getElem (by omega)]
        simp
        rfl)
      have HX := Lib.hid (xor_u8 s[k] n)
      have hcat : ¬ 9223372036854775807 < k + 1 := by omega
      have hcat2 : ¬ 9223372036854775807 < (⟨((s.data.toList.take k).map (fun c => c ^^^ n)).toArray⟩ : ByteArray).size + 1 := by omega
      generalize hu : (⟨((s.data.toList.take k).map (fun c => c ^^^ n)).toArray⟩ : ByteArray) = u at *
      have hx0 : 0 ≤ bits BinOp.xor IntKind.u8 (s[k].toNat : Int) (n.toNat : Int) := by rw [HX.out]; omega
      clear hb hu hz e0
      go_wp2_with (first | (refine wpList_toString1 rfl 60 9 _ rfl 5 _ _ (bits BinOp.xor IntKind.u8 (s[k].toNat : Int) (n.toNat : Int)) rfl ?c1 Tryz.underlying60 Tryz.underlying5 Tryz.underlying9 ?_; rotate_left))
      case c1 => simp
      go_roundw
      case rel =>
        refine ⟨k + 1, by omega, ?_, by go_num, HB.out.alloc HB.out.size _⟩
        have e : UInt8.ofNat (bits BinOp.xor IntKind.u8 (s[k].toNat : Int) (n.toNat : Int)).toNat = s[k] ^^^ n := by rw [HX.out]; simp
        rw [HJ.out, e]
      case measure => simp [intOf]; omega
    · obtain rfl : k = s.size := by omega
      have e : s.data.toList.take s.size = s.data.toList := List.take_of_length_le (by omega)
      rw [e] at *
      go_wp2_with fail
      go_ret
      exact ⟨rfl, hb⟩
end Go.Proofs.YtjboillkhhefaaaGreatDoor
