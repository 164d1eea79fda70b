/- The reference's SHA-256 (layer 5): its small functions. -/
import Derived.Test.YtjboillkhhefaaaGreatDoorShf
import Derived.Test.YtjboillkhhefaaaGreatDoorRefa
set_option linter.unusedVariables false
namespace Go.Proofs.YtjboillkhhefaaaGreatDoor
open Go.RowKit

theorem wpList_buildSlice {P : Program} {ops : Array Oper} {rest : List Oper} {o : Oper} {a : Act} {Q : Exit → Act → World → Prop} {w : World} (hgd : o.guard = none) (T : TypeId) (n : Nat) (ps : Array (Nat × Operand)) (ho : o.op = .buildSlice T n ps) (v : Value) (w' : World) (hr : (execOp a.eval o).run P w = .ok (.value v) w')
    (hk : wpList P ops Q rest (a.put o.dst v) w') : wpList P ops Q (o :: rest) a w := by
  refine wpList_plain hgd fun K hK => ?_
  unfold Oper.wp
  rw [hr]
  exact hK _ _ hk
theorem repB_size (k : Nat) : (⟨Array.replicate k 0⟩ : ByteArray).size = k := by
  show (Array.replicate k (0 : UInt8)).size = k
  simp
theorem oneB_size (c : UInt8) (s : ByteArray) : (s ++ ⟨#[c]⟩ : ByteArray).size = s.size + 1 := ByteArray.size_append

set_option maxRecDepth 100000 in
set_option maxHeartbeats 400000 in
theorem refRor (x : Nat) (m : Int) (hx : x < 4294967296) (h1 : 1 ≤ m) (h31 : m ≤ 31) (w : World) :
    Calls Tryz.prog 161 #[.int .u32 x, .int .i64 m] w fun e w' => e = .returned (.int .u32 (ror32 x m.toNat : Nat)) ∧ ∃ n, w' = w.drewN n := by
  obtain ⟨n, rfl⟩ : ∃ n : Nat, m = n := ⟨m.toNat, by omega⟩
  have b1 : (x : Int) < 4294967296 := by omega
  go_enter Tryz.func161, Tryz.ntmps161
  go_wp2_with fail
  go_quiet (fail)
  go_wp2_with fail
  go_ret
  refine ⟨ret_int ?_, _, rfl⟩
  have e1 : (x : Int) * 2 ^ (32 - n) % 4294967296 = ((x * 2 ^ (32 - n) % 4294967296 : Nat) : Int) := by rw [Int.natCast_emod, Int.natCast_mul, Int.natCast_pow]; rfl
  have e2 : (x : Int) / 2 ^ n = ((x / 2 ^ n : Nat) : Int) := by rw [Int.natCast_ediv, Int.natCast_pow]; rfl
  have h2 : x / 2 ^ n < 4294967296 := Nat.lt_of_le_of_lt (Nat.div_le_self _ _) (by omega)
  rw [e1, e2, u32_or_nat _ _ h2 (Nat.mod_lt _ (by omega)), Nat.or_comm]
  simp [ror32]

set_option maxRecDepth 100000 in
set_option maxHeartbeats 400000 in
theorem refK (i : Nat) (hi : (i : Int) < 64) (w : World) :
    Calls Tryz.prog 162 #[.int .i64 i] w fun e w' => e = .returned (.int .u32 (shaK.getD i 0 : Nat)) ∧ Below w.heap.size w w' := by
  have q := u32s_get shaK i (by simp [shaK]; omega)
  go_enter Tryz.func162, Tryz.ntmps162
  go_wp2_with (first | (refine wpList_buildSlice rfl 250 64 _ rfl (.slice (some ⟨w.heap.size, 0, none⟩) 64 64) (w.alloc (.cells (u32s shaK) 54)) (by kernel_rfl) ?_))
  go_ret
  exact ⟨rfl, (Below.refl _ _).alloc (Nat.le_refl _) _⟩

set_option maxRecDepth 100000 in
set_option maxHeartbeats 400000 in
theorem refPad (s : ByteArray) (w : World) (hs : s.size ≤ 549755813888) :
    Calls Tryz.prog 160 #[.string s] w fun e w' => e = .returned (.string (shaPad s s.size)) ∧ Below w.heap.size w w' := by
  have hs' : ¬ 9223372036854775807 < s.size + 1 := by omega
  go_enter Tryz.func160, Tryz.ntmps160
  go_wp2_with fail
  go_loop [3] (fun t => ∃ k : Nat, k ≤ (119 - s.size % 64) % 64 ∧ t = .string (s ++ ⟨#[128]⟩ ++ ⟨Array.replicate k 0⟩)) (fun t => match t with | .string u => s.size + 200 - u.size | _ => 0)
  case atStart => exact ⟨0, by omega, by rw [show (⟨Array.replicate 0 0⟩ : ByteArray) = ⟨#[]⟩ from rfl, app_empty]⟩
  case round =>
    obtain ⟨k, hk, rfl⟩ := hrel
    have hz : (s ++ ⟨#[128]⟩ ++ ⟨Array.replicate k 0⟩ : ByteArray).size = s.size + 1 + k := by
      rw [ByteArray.size_append, oneB_size, repB_size]
    have HZ := Lib.hid hz
    have hz1 : (s ++ ⟨#[128]⟩ ++ ⟨Array.replicate k 0⟩ : ByteArray).size ≤ 549755814088 := by omega
    have HS : Hid ((s ++ ⟨#[128]⟩ ++ ⟨Array.replicate k 0⟩ : ByteArray) ++ ⟨#[0]⟩ = s ++ ⟨#[128]⟩ ++ ⟨Array.replicate (k + 1) 0⟩) := by
      show _ = _
      rw [app_assoc (s ++ ⟨#[128]⟩)]
      congr 1
      apply bytes_ext
      simp [List.replicate_succ']
    generalize hu : (s ++ ⟨#[128]⟩ ++ ⟨Array.replicate k 0⟩ : ByteArray) = u at *
    have HU := Lib.hid hu
    clear hu hz
    by_cases hlt : k < (119 - s.size % 64) % 64
    · have hb : ((u.size : Int) % 64 != 56) = true := by have := HZ.out; rw [bne_iff_ne]; omega
      go_wp2_with fail
      go_round
      case rel => exact ⟨k + 1, by omega, by rw [HS.out]⟩
      case measure =>
        have h1 := oneB_size 0 u
        have h2 := HZ.out
        show s.size + 200 - (u ++ ⟨#[0]⟩ : ByteArray).size < s.size + 200 - u.size
        omega
    · have hb : ((u.size : Int) % 64 != 56) = false := by have := HZ.out; rw [bne_eq_false_iff_eq]; omega
      go_wp2_with fail
      rw [show (8 : Int) * (s.size : Int) = ((8 * s.size : Nat) : Int) from by omega]
      refine (refPut u (8 * s.size) 8 _ (by omega) (by omega) (by omega)).mono ?_
      rintro e w2 ⟨rfl, hb2⟩
      go_wp2_with fail
      go_ret
      refine ⟨ret_str ?_, hb2⟩
      rw [← HU.out, show k = (119 - s.size % 64) % 64 from by omega]
      rfl
end Go.Proofs.YtjboillkhhefaaaGreatDoor
