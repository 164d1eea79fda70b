/- The program's package sha: what each function does. -/
import Derived.Test.YtjboillkhhefaaaGreatDoorOct
import Derived.Test.YtjboillkhhefaaaGreatDoorShaSpec
set_option linter.unusedVariables false
namespace Go.Proofs.YtjboillkhhefaaaGreatDoor
open Go.RowKit

set_option maxRecDepth 100000 in
set_option maxHeartbeats 400000 in
theorem rotl (x n : Nat) (hx : (x : Int) < 4294967296) (h1 : 1 ≤ n) (h31 : n ≤ 31) (hb : bits BinOp.and IntKind.u64 (IntKind.u64.wrap (-(n : Int))) 31 = ((32 - n : Nat) : Int)) (w : World) :
    Calls Tryz.prog 190 #[.int .u32 x, .int .i64 (-(n : Int))] w fun e w' => e = .returned (.int .u32 (ror32 x n : Nat)) ∧ w = w' := by
  have b1 : ((32 - n : Nat) : Int) < 32 := by omega
  have b2 : 0 < ((32 - n : Nat) : Int) := by omega
  generalize hm : 32 - n = m at *
  have HM := Lib.hid hm
  clear hm
  go_enter Tryz.func190, Tryz.ntmps190
  go_wp2_with fail
  go_ret
  refine ⟨ret_int ?_, rfl⟩
  have e1 : (x : Int) * 2 ^ m % 4294967296 = ((x * 2 ^ m % 4294967296 : Nat) : Int) := by rw [Int.natCast_emod, Int.natCast_mul, Int.natCast_pow]; rfl
  have e2 : (x : Int) / 2 ^ (32 - m) = ((x / 2 ^ (32 - m) : Nat) : Int) := by rw [Int.natCast_ediv, Int.natCast_pow]; rfl
  have h2 : x / 2 ^ (32 - m) < 4294967296 := Nat.lt_of_le_of_lt (Nat.div_le_self _ _) (by omega)
  rw [e1, e2, u32_or_nat _ _ (Nat.mod_lt _ (by omega)) h2]
  unfold ror32
  rw [HM.out, show 32 - m = n from by have := HM.out; omega]

set_option maxRecDepth 100000 in
set_option maxHeartbeats 400000 in
theorem shaConst (i : Nat) (hi : (i : Int) < 64) (w : World) :
    Calls Tryz.prog 188 #[.int .i64 i] w fun e w' => e = .returned (.int .u32 (shaK.getD i 0 : Nat)) ∧ Below w.heap.size w w' := by
  go_enter Tryz.func188, Tryz.ntmps188
  go_wp2_with (first | (refine wpList_build rfl 274 _ rfl (.agg (u32s shaK)) (by kernel_rfl) ?_) | (refine wpList_store_blk rfl 274 _ _ rfl w.heap.size (u32s shaK) rfl rfl 274 _ (Blk.new _ _ _) (by rfl) (by kernel_rfl) (u32s_one _) ?_; intro w1 hk1 hg1; have q := hk1.cell i; rw [u32s_get shaK i (by simp [shaK]; omega)] at q))
  go_ret
  exact ⟨rfl, (((Below.refl _ _).alloc (Nat.le_refl _) _).trans (below_grown hg1 (Nat.le_refl _) (by simp)))⟩

/-- What ror asks of a number of places: paid by 'decide' at each. -/
def RorAt (n : Nat) : Prop := bits BinOp.and IntKind.u64 (IntKind.u64.wrap (-(n : Int))) 31 = ((32 - n : Nat) : Int)
set_option maxRecDepth 100000 in
set_option maxHeartbeats 400000 in
theorem shaRor (x n : Nat) (hx : x < 4294967296) (h1 : 1 ≤ n) (h31 : n ≤ 31) (hb : RorAt n) (w : World) :
    Calls Tryz.prog 187 #[.int .u32 x, .int .i64 n] w fun e w' => e = .returned (.int .u32 (ror32 x n : Nat)) ∧ w = w' := by
  have HB := Lib.hid hb
  clear hb
  have h32 : (n : Int) ≤ 31 := by omega
  go_enter Tryz.func187, Tryz.ntmps187
  go_wp2_with fail
  refine (rotl x n (by omega) h1 h31 HB.out _).mono ?_
  rintro e w1 ⟨rfl, rfl⟩
  go_wp2_with fail
  go_ret
  exact ⟨rfl, rfl⟩

set_option maxRecDepth 100000 in
theorem shaBegin (w : World) :
    Calls Tryz.prog 174 #[] w fun e w' => e = .returned (.agg (u32s shaH0)) ∧ Below w.heap.size w w' := by
  go_enter Tryz.func174, Tryz.ntmps174
  go_wp2
  exact bodyPost_ret (v := .agg (u32s shaH0)) (results_cell_row rfl _ _ w.heap.size 261 _ _ _ rfl (heap_alloc_new _ _) Tryz.underlying261 rfl (by kernel_rfl)) rfl ⟨rfl, (Below.refl _ _).alloc (Nat.le_refl _) _⟩

/-! ### The schedule -/
set_option maxRecDepth 100000 in
set_option maxHeartbeats 400000 in
theorem octOf32 (s : ByteArray) (w : World) (hs : s.size ≤ 4) :
    Calls Tryz.prog 189 #[.string s] w fun e w' => e = .returned (.int .u32 (ofB s)) ∧ w = w' := by
  go_enter Tryz.func189, Tryz.ntmps189
  go_wp2_with fail
  go_loop [3, 7] (fun a b => ∃ (k : Nat), k ≤ s.size ∧ a = .int .u64 (ofL (s.data.toList.take k)) ∧ b = .int .i64 k) (fun _ b => s.size - (intOf b).toNat)
  case atStart => exact ⟨0, Nat.zero_le _, rfl, rfl⟩
  case round =>
    obtain ⟨k, hk, rfl, rfl⟩ := hrel
    by_cases hlt : k < s.size
    · have HS := Lib.hid (of_step s k (by omega) hlt)
      go_wp2_with fail
      go_round
      case rel => exact ⟨k + 1, by omega, by rw [HS.out], by go_num⟩
      case measure => simp [intOf]; omega
    · have hn := ofL_take_lt32 s k hs
      go_wp2_with fail
      go_ret
      refine ⟨ret_int ?_, rfl⟩
      rw [take_all s k (by omega)] at *
      first | rfl | (show _ = ((ofB s : Nat) : Int); simp only [IntKind.wrap_u32]; unfold ofB; omega)
theorem low_eq (x a b : Nat) (ha : a < 4294967296) (hb : b < 4294967296) (hx : x < 4294967296) (m : Nat) (M : Int) (hM : M = m) :
    bits BinOp.xor IntKind.u32 (bits BinOp.xor IntKind.u32 (a : Int) (b : Int)) ((x : Int) / M) = (((a ^^^ b) ^^^ (x / m) : Nat) : Int) := by
  rw [u32_xor_nat _ _ ha hb, hM, ← Int.natCast_ediv, u32_xor_nat _ _ (xor32_lt ha hb) (Nat.lt_of_le_of_lt (Nat.div_le_self _ _) hx)]
theorem add2_cast (a b : Nat) : ((a : Int) + b) % 4294967296 = (add2 a b : Int) := by unfold add2; omega
theorem wrap_add2 (a b : Nat) : IntKind.u32.wrap ((a : Int) + b) = (add2 a b : Int) := by rw [IntKind.wrap_u32, add2_cast]
theorem next_eq (a b c d : Nat) : IntKind.u32.wrap (IntKind.u32.wrap (IntKind.u32.wrap ((a : Int) + b) + c) + d) = (add2 (add2 (add2 a b) c) d : Int) := by
  rw [wrap_add2, wrap_add2, wrap_add2]

set_option maxRecDepth 100000 in
set_option maxHeartbeats 1000000 in
theorem shaSchedule (s : ByteArray) (w : World) (hs : s.size = 64) :
    Calls Tryz.prog 186 #[.string s] w fun e w' => e = .returned (.agg (u32s (shaW s))) ∧ Below w.heap.size w w' := by
  have HS := Lib.hid hs
  have hs1 : s.size ≤ 64 := by omega
  have hs2 : 64 ≤ s.size := by omega
  clear hs
  go_enter Tryz.func186, Tryz.ntmps186
  go_wp2_with fail
  go_loopw [10] (fun c wr => ∃ k : Nat, k ≤ 16 ∧ c = .int .i64 k ∧ Blk wr (w.heap.size + 1) (u32s (shaHead s k ++ List.replicate (64 - k) 0)) 274 ∧ Blk wr w.heap.size (u32s (List.replicate 64 0)) 274 ∧ Below w.heap.size w wr) (fun c _ => 16 - (intOf c).toNat)
  case atStart =>
    exact ⟨0, by omega, rfl, Blk.new2 w _ (u32s (List.replicate 64 0)) _, (Blk.new w (u32s (List.replicate 64 0)) _).alloc _, ((Below.refl _ _).alloc (Nat.le_refl _) _).alloc (by simp) _⟩
  case round =>
    obtain ⟨k, hk, rfl, hk1, hk0, hb⟩ := hrel
    by_cases hlt : k < 16
    · have hz : (k : Int) < 16 := by omega
      have HB := Lib.hid hk1
      have HB0 := Lib.hid hk0
      have q0 := hk1.lt
      have z0 := hk1.frozen k
      have q1 := hk1.cell k
      rw [u32s_get _ _ (by simp [shaHead_length]; omega)] at q1
      clear hk1 hk0
      have hsz : (s.extract (4 * k) (4 * k + 4)).size ≤ 4 := by rw [ByteArray.size_extract]; omega
      go_wp2_with (first | (go_at_call 189; refine (octOf32 _ _ hsz).mono ?_; rintro e w1 ⟨rfl, rfl⟩))
      go_roundw
      case rel =>
        refine ⟨k + 1, by omega, by go_num, ?_, HB0.out.setOther (by simp) _, hb.setCell (by simp) _⟩
        have h1 := HB.out.setCell k (.int .u32 (ofB (s.extract (4 * k) (4 * k + 4)) : Nat))
        rw [u32s_set] at h1
        rw [shaHead_succ, show 64 - (k + 1) = 63 - k from by omega, ← set_next, shaHead_length, show 63 - k + 1 = 64 - k from by omega]
        exact h1
      case measure => simp [intOf]; omega
    · obtain rfl : k = 16 := by omega
      rw [show ((16 : Nat) : Int) = 16 from rfl]
      go_wp2_with fail
      go_loopw [5] (fun c wr => ∃ k : Nat, k ≤ 48 ∧ c = .int .i64 (16 + k : Nat) ∧ Blk wr (w.heap.size + 1) (u32s (shaGo (shaHead s 16) k ++ List.replicate (48 - k) 0)) 274 ∧ Blk wr w.heap.size (u32s (List.replicate 64 0)) 274 ∧ Below w.heap.size w wr) (fun c _ => 64 - (intOf c).toNat)
      case atStart => exact ⟨0, by omega, rfl, hk1, hk0, hb⟩
      case round =>
        obtain ⟨k, hk, rfl, hk1, hk0, hb⟩ := hrel
        have hl0 : (shaGo (shaHead s 16) k).length = 16 + k := by rw [shaGo_length, shaHead_length]
        have hlt0 := shaGo_lt (shaHead_lt s 16) k
        by_cases hlt : k < 48
        · have hz : ((16 + k : Nat) : Int) < 64 := by omega
          have hz0 : (16 : Int) ≤ ((16 + k : Nat) : Int) := by omega
          have hstep : shaGo (shaHead s 16) (k + 1) = shaGo (shaHead s 16) k ++ [shaNext (shaGo (shaHead s 16) k) (16 + k)] := by rw [shaGo, hl0]
          have HT := Lib.hid hstep
          have HL := Lib.hid hl0
          clear hstep
          generalize shaGo (shaHead s 16) k = l at *
          have hcell : ∀ j, j < 16 + k → wr.cell? ⟨w.heap.size + 1, j, none⟩ = some (.int .u32 (l.getD j 0 : Nat)) := fun j hj => by
            rw [hk1.cell j, u32s_get _ _ (by simp [hl0]; omega), getD_left _ _ _ (by omega)]
          have q15 := hcell (16 + k - 15) (by omega)
          have q2 := hcell (16 + k - 2) (by omega)
          have q16 := hcell (16 + k - 16) (by omega)
          have q7 := hcell (16 + k - 7) (by omega)
          have z0 := hk1.frozen (16 + k)
          have qi := hk1.cell (16 + k)
          rw [u32s_get _ _ (by simp [hl0]; omega)] at qi
          have x15 := hlt0.getD (16 + k - 15)
          have x2 := hlt0.getD (16 + k - 2)
          have HB := Lib.hid hk1
          have HB0 := Lib.hid hk0
          clear hk1 hk0 hcell hlt0 hl0
          generalize hn : 16 + k = n at *
          have HN := Lib.hid hn
          clear hn
          have n15 : (0 : Int) ≤ (n : Int) - 15 ∧ (n : Int) - 15 < 64 := by omega
          have n2 : (0 : Int) ≤ (n : Int) - 2 ∧ (n : Int) - 2 < 64 := by omega
          have n16 : (0 : Int) ≤ (n : Int) - 16 ∧ (n : Int) - 16 < 64 := by omega
          have n7 : (0 : Int) ≤ (n : Int) - 7 ∧ (n : Int) - 7 < 64 := by omega
          generalize hx15 : l.getD (n - 15) 0 = X at *
          generalize hx2 : l.getD (n - 2) 0 = Y at *
          have HX := Lib.hid hx15
          have HY := Lib.hid hx2
          clear hx15 hx2
          go_wp2_with fail
          go_quiet (fail)
          go_wp2_with fail
          refine (shaRor X 7 x15 (by omega) (by omega) (by unfold RorAt; decide) _).mono ?_
          rintro e w1 ⟨rfl, rfl⟩
          go_wp2_with fail
          refine (shaRor X 18 x15 (by omega) (by omega) (by unfold RorAt; decide) _).mono ?_
          rintro e w1 ⟨rfl, rfl⟩
          go_wp2_with fail
          refine (shaRor Y 17 x2 (by omega) (by omega) (by unfold RorAt; decide) _).mono ?_
          rintro e w1 ⟨rfl, rfl⟩
          go_wp2_with fail
          refine (shaRor Y 19 x2 (by omega) (by omega) (by unfold RorAt; decide) _).mono ?_
          rintro e w1 ⟨rfl, rfl⟩
          go_wp2_with fail
          have w16 : IntKind.i64.wrap ((n : Int) - 16) = (n : Int) - 16 := IntWalk.i64_in _ (by omega)
          have w7 : IntKind.i64.wrap ((n : Int) - 7) = (n : Int) - 7 := IntWalk.i64_in _ (by omega)
          have t16 : ((n : Int) - 16).toNat = n - 16 := by omega
          have t7 : ((n : Int) - 7).toNat = n - 7 := by omega
          refine wp_region_tail 15 (by kernel_rfl) (by kernel_rfl) ?_
          simp only [List.take_succ_cons, List.take_zero, List.drop_succ_cons, List.drop_zero]
          have h7 : (7 : Int) ≤ n := by omega
          repeat still_step
          refine wpStill_nil ?_
          clear w16 w7 t16 t7
          go_wp2_with fail
          go_roundw
          case rel =>
            refine ⟨k + 1, by omega, by have := HN.out; go_num, ?_, (HB0.out.drewN _).drew.setOther (by simp) _, (below_drewN hb _).drew.setCell (by simp) _⟩
            rw [low_eq X _ _ (ror32_lt _ _ x15) (ror32_lt _ _ x15) x15 8 8 rfl, low_eq Y _ _ (ror32_lt _ _ x2) (ror32_lt _ _ x2) x2 1024 1024 rfl]
            have hv : ((((l[n - 16]?.getD 0 : Nat) : Int) + (((ror32 X 7 ^^^ ror32 X 18) ^^^ (X / 8) : Nat) : Int) + ((l[n - 7]?.getD 0 : Nat) : Int) + (((ror32 Y 17 ^^^ ror32 Y 19) ^^^ (Y / 1024) : Nat) : Int)) % 4294967296) = ((shaNext l n : Nat) : Int) := by
              have hX := HX.out
              have hY := HY.out
              simp only [List.getD] at hX hY
              unfold shaNext add2
              simp only [List.getD, hX, hY]
              omega
            rw [hv, HT.out]
            have h1 := (HB.out.drewN (nq + 1)).setCell n (.int .u32 (shaNext l n : Nat))
            rw [u32s_set] at h1
            have h2 := set_next l (47 - k) (shaNext l n)
            rw [HL.out] at h2
            rw [show 48 - (k + 1) = 47 - k from by omega, ← h2, show 47 - k + 1 = 48 - k from by omega]
            exact h1
          case measure => simp [intOf]; omega
        · obtain rfl : k = 48 := by omega
          have hfin : shaGo (shaHead s 16) 48 ++ List.replicate (48 - 48) 0 = shaW s := by simp [shaW]
          rw [hfin] at hk1
          have HB := Lib.hid hk1
          have HB0 := Lib.hid hk0
          clear hk1 hk0 hfin hlt0 hl0
          go_wp2_with (first | (refine wpList_load_blk rfl 274 _ rfl (w.heap.size + 1) rfl 274 (u32s (shaW s)) _ HB.out Tryz.underlying274 rfl (by rw [u32s_size, shaW_length]; kernel_rfl) ?_) | (refine wpList_store_blk rfl 274 _ _ rfl w.heap.size (u32s (shaW s)) rfl rfl 274 _ HB0.out (by rw [u32s_size, u32s_size, shaW_length]; rfl) (by rw [u32s_size, shaW_length]; kernel_rfl) (u32s_one _) ?_; intro w1 hk1 hg1))
          exact bodyPost_ret (v := .agg (u32s (shaW s))) (results_cell_row rfl _ _ w.heap.size 274 _ _ _ rfl hk1 Tryz.underlying274 rfl (by rw [u32s_size, shaW_length]; kernel_rfl)) rfl ⟨rfl, hb.trans (below_grown hg1 (Nat.le_refl _) hb.size)⟩

end Go.Proofs.YtjboillkhhefaaaGreatDoor
