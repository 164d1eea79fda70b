/- The program's package sha: the rounds of a block. -/
import Derived.Test.YtjboillkhhefaaaGreatDoorSha
import Derived.Deep.CutBlock
import Derived.Deep.DeepCutAuto
set_option linter.unusedVariables false
namespace Go.Proofs.YtjboillkhhefaaaGreatDoor
open Go.RowKit

def RorZ (m : Int) : Prop := bits BinOp.and IntKind.u64 (IntKind.u64.wrap (-m)) 31 = 32 - m
theorem shaRorZ (x : Nat) (m : Int) (hx : x < 4294967296) (h1 : 1 ≤ m) (h31 : m ≤ 31) (hb : RorZ m) (w : World) :
    Calls Tryz.prog 187 #[.int .u32 x, .int .i64 m] w fun e w' => e = .returned (.int .u32 (ror32 x m.toNat : Nat)) ∧ w = w' := by
  obtain ⟨n, rfl⟩ : ∃ n : Nat, m = n := ⟨m.toNat, by omega⟩
  refine (shaRor x n hx (by omega) (by omega) ?_ w).mono ?_
  · unfold RorAt; rw [hb]; omega
  · rintro e w' ⟨rfl, rfl⟩; exact ⟨by simp, rfl⟩

theorem not_cast (x : Nat) (h : x < 4294967296) : bits BinOp.xor IntKind.u32 IntKind.u32.max (x : Int) = (not32 x : Int) := by
  have e : IntKind.u32.max = ((4294967295 : Nat) : Int) := by decide
  rw [e, u32_xor_nat _ _ (by omega) h]
  congr 1
  unfold not32
  apply Nat.eq_of_testBit_eq
  intro i
  rw [show 4294967295 - x = 2 ^ 32 - (x + 1) from by omega, Nat.testBit_two_pow_sub_succ (by omega), Nat.testBit_xor, show (4294967295 : Nat) = 2 ^ 32 - 1 from rfl, Nat.testBit_two_pow_sub_one]
  by_cases hi : i < 32
  · simp [hi]
  · have : x.testBit i = false := Nat.testBit_lt_two_pow (Nat.lt_of_lt_of_le (show x < 2 ^ 32 from h) (Nat.pow_le_pow_right (by decide) (Nat.le_of_not_lt hi)))
    simp [hi, this]
theorem one_eq (e f g hh k w : Nat) (he : e < 4294967296) (hf : f < 4294967296) (hg : g < 4294967296) :
    IntKind.u32.wrap (IntKind.u32.wrap (IntKind.u32.wrap (IntKind.u32.wrap ((hh : Int) + bits BinOp.xor IntKind.u32 (bits BinOp.xor IntKind.u32 (ror32 e 6 : Nat) (ror32 e 11 : Nat)) (ror32 e 25 : Nat)) + bits BinOp.xor IntKind.u32 (bits BinOp.and IntKind.u32 (e : Int) (f : Int)) (bits BinOp.and IntKind.u32 (bits BinOp.xor IntKind.u32 IntKind.u32.max (e : Int)) (g : Int))) + (k : Int)) + (w : Int)) = (sha1 e f g hh k w : Int) := by
  have r := fun n => ror32_lt e n he
  rw [not_cast e he, u32_and_nat _ _ he hf, u32_and_nat _ _ (not32_lt e) hg, u32_xor_nat _ _ (and32_lt he) (and32_lt (not32_lt e)), u32_xor_nat _ _ (r 6) (r 11), u32_xor_nat _ _ (xor32_lt (r 6) (r 11)) (r 25), wrap_add2, wrap_add2, wrap_add2, wrap_add2]
  rfl
theorem two_eq (a b c : Nat) (ha : a < 4294967296) (hb : b < 4294967296) (hc : c < 4294967296) :
    (bits BinOp.xor IntKind.u32 (bits BinOp.xor IntKind.u32 (ror32 a 2 : Nat) (ror32 a 13 : Nat)) (ror32 a 22 : Nat) + bits BinOp.xor IntKind.u32 (bits BinOp.xor IntKind.u32 (bits BinOp.and IntKind.u32 (a : Int) (b : Int)) (bits BinOp.and IntKind.u32 (a : Int) (c : Int))) (bits BinOp.and IntKind.u32 (b : Int) (c : Int))) % 4294967296 = (sha2 a b c : Int) := by
  have r := fun n => ror32_lt a n ha
  rw [u32_and_nat _ _ ha hb, u32_and_nat _ _ ha hc, u32_and_nat _ _ hb hc, u32_xor_nat _ _ (and32_lt ha) (and32_lt ha), u32_xor_nat _ _ (xor32_lt (and32_lt ha) (and32_lt ha)) (and32_lt hb), u32_xor_nat _ _ (r 2) (r 13), u32_xor_nat _ _ (xor32_lt (r 2) (r 13)) (r 22), add2_cast]
  rfl

set_option maxRecDepth 100000 in
set_option maxHeartbeats 1000000 in
theorem shaWith (h : List Nat) (s : ByteArray) (w : World) (hh : h.length = 8) (hl : Lt32 h) (hs : s.size = 64) :
    Calls Tryz.prog 183 #[.agg (u32s h), .string s] w fun e w' => e = .returned (.agg (u32s (shaBlock h s))) ∧ Below w.heap.size w w' := by
  have H8 := Lib.hid hh
  clear hh
  go_enter Tryz.func183, Tryz.ntmps183
  go_wp2_with (first | (refine wpList_load_blk rfl 261 _ rfl w.heap.size rfl 261 (u32s h) _ ((Blk.new w _ _).alloc _) Tryz.underlying261 rfl (by rw [u32s_size, H8.out]; kernel_rfl) ?_) | (refine wpList_store_blk rfl 261 _ _ rfl (w.heap.size + 1 + 1) (u32s h) rfl rfl 261 _ (Blk.at _ _ _ _ (by simp)) (by rw [u32s_size, H8.out]; rfl) (by rw [u32s_size, H8.out]; kernel_rfl) (u32s_one _) ?_; intro w1 hk1 hg1))
  refine (shaSchedule s _ hs).mono ?_
  rintro e w2 ⟨rfl, hb2⟩
  have k2 := hk1.below hb2 hk1.lt
  have k0 : Blk w2 w.heap.size (u32s h) 261 := (((((Blk.new w (u32s h) 261).alloc _).alloc _).grown hg1 (by simp; omega))).below hb2 (by have := hg1.size; simp at this; omega)
  have k1 : Blk w2 (w.heap.size + 1) (u32s (List.replicate 8 0)) 261 := ((((Blk.new2 w _ (u32s (List.replicate 8 0)) 261).alloc _).grown hg1 (by simp))).below hb2 (by have := hg1.size; simp at this; omega)
  have hb0 : Below w.heap.size w w2 := ((((Below.refl _ w).alloc (Nat.le_refl _) _).alloc (by simp) _).alloc (by simp; omega) _).trans ((below_grown hg1 (by omega) (by simp; omega)).trans (hb2.mono (by have := hg1.size; simp at this; omega)))
  have HW := Lib.hid (shaW_length s)
  have HWL := Lib.hid (shaW_lt s)
  have HL := Lib.hid hl
  clear hb2 hk1 hg1 hl
  go_wp2_with fail
  go_loopw [20] (fun c wr => ∃ k : Nat, k ≤ 64 ∧ c = .int .i64 k ∧ Blk wr (w.heap.size + 1 + 1) (u32s (shaRounds h (shaW s) k)) 261 ∧ Blk wr w.heap.size (u32s h) 261 ∧ Blk wr (w.heap.size + 1) (u32s (List.replicate 8 0)) 261 ∧ Below w.heap.size w wr) (fun c _ => 64 - (intOf c).toNat)
  case atStart => exact ⟨0, by omega, rfl, k2, k0, k1, hb0⟩
  case round =>
    clear k2 k0 k1 hb0
    obtain ⟨k, hk, rfl, k2, k0, k1, hb⟩ := hrel
    by_cases hlt : k < 64
    · have hk64 : (k : Int) < 64 := by omega
      have hv8 := shaRounds_length h (shaW s) H8.out k
      have hvl := (Lt32.rounds HL.out (shaW s) k).getD
      have HR : Hid (shaRounds h (shaW s) (k + 1) = shaRound (shaRounds h (shaW s) k) (shaK.getD k 0) ((shaW s).getD k 0)) := rfl
      generalize shaRounds h (shaW s) k = v at *
      have HV := Lib.hid hvl
      have q0 := k2.cell 0
      have q1 := k2.cell 1
      have q2 := k2.cell 2
      have q3 := k2.cell 3
      have q4 := k2.cell 4
      have q5 := k2.cell 5
      have q6 := k2.cell 6
      have q7 := k2.cell 7
      rw [u32s_get v _ (by omega)] at q0 q1 q2 q3 q4 q5 q6 q7
      have K2 := Lib.hid k2
      have K0 := Lib.hid k0
      have K1 := Lib.hid k1
      have hlt2 := k2.lt
      have V8 := Lib.hid hv8
      clear k2 k0 k1 hvl hv8
      generalize ha : v.getD 0 0 = va at *
      generalize hb' : v.getD 1 0 = vb at *
      generalize hc : v.getD 2 0 = vc at *
      generalize hd : v.getD 3 0 = vd at *
      generalize he : v.getD 4 0 = ve at *
      generalize hf : v.getD 5 0 = vf at *
      generalize hg : v.getD 6 0 = vg at *
      generalize hh : v.getD 7 0 = vh at *
      have HA := Lib.hid (And.intro ha (And.intro hb' (And.intro hc (And.intro hd (And.intro he (And.intro hf (And.intro hg hh)))))))
      have xa : va < 4294967296 := ha ▸ HV.out 0
      have xb : vb < 4294967296 := hb' ▸ HV.out 1
      have xc : vc < 4294967296 := hc ▸ HV.out 2
      have xd : vd < 4294967296 := hd ▸ HV.out 3
      have xe : ve < 4294967296 := he ▸ HV.out 4
      have xf : vf < 4294967296 := hf ▸ HV.out 5
      have xg : vg < 4294967296 := hg ▸ HV.out 6
      have xh : vh < 4294967296 := hh ▸ HV.out 7
      have PX := Lib.hid (show va < 4294967296 ∧ vb < 4294967296 ∧ vc < 4294967296 ∧ vd < 4294967296 ∧ ve < 4294967296 ∧ vf < 4294967296 ∧ vg < 4294967296 ∧ vh < 4294967296 from ⟨xa, xb, xc, xd, xe, xf, xg, xh⟩)
      have HK := Lib.hid hlt
      have HB := Lib.hid hb
      clear ha hb' hc hd he hf hg hh xa xb xc xd xf xg xh HL hb hk HV
      go_wp2_with (first | (refine wpList_index_u32s rfl 274 _ _ rfl 54 64 (shaW s) k rfl rfl Tryz.underlying274 (by kernel_rfl) (fun _ => by kernel_rfl) HW.out hlt ?_))
      go_quiet (fail)
      go_wp2_with fail
      generalize hwk : (shaW s)[k]?.getD 0 = wk at *
      have HWK := Lib.hid hwk
      have PK := Lib.hid (And.intro HA (And.intro PX (And.intro HR (And.intro K2 (And.intro K0 (And.intro K1 (And.intro HB (And.intro H8 (And.intro HW (And.intro HWK (And.intro HWL (And.intro V8 (And.intro HK q3)))))))))))))
      clear q0 q1 q2 q4 q5 q6 hwk hlt HA PX HR K2 K0 K1 HB H8 HW HWK HWL V8 HK q3
      go_region_held3 (fun w' => w'.cell? ⟨w.heap.size + 1 + 1, 7, none⟩ = some (.int .u32 vh)) (first | (with_reducible assumption) | (simp only [World.cell?_drew, World.cell?_drewN]; with_reducible assumption) | (refine cell_later (by with_reducible assumption) ?_; (first | (with_reducible assumption) | (simp only [World.cell?_drew, World.cell?_drewN]; with_reducible assumption)))) (first | (go_at_call 187; refine (shaRorZ ve _ xe (by omega) (by omega) (by unfold RorZ; decide) _).mono ?_; rintro e w3 ⟨rfl, rfl⟩) | (go_at_call 188; refine (shaConst k hk64 _).mono ?_; rintro e w3 ⟨rfl, hb3⟩))
      rename_i hHeld
      rw [one_eq ve vf vg vh _ _ xe PK.out.2.1.out.2.2.2.2.2.1 PK.out.2.1.out.2.2.2.2.2.2.1]
      have q3 := cell_later hb3 (show ((wr.drewN nq).drew).cell? ⟨w.heap.size + 1 + 1, 3, none⟩ = _ from PK.out.2.2.2.2.2.2.2.2.2.2.2.2.2)
      have HB3 := Lib.hid hb3
      have xa := PK.out.2.1.out.1
      generalize hone : sha1 ve vf vg vh (shaK[k]?.getD 0) wk = one at *
      have HONE := Lib.hid hone
      clear hone hb3 hHeld xe q7
      go_upto_region 8 with (first | (go_at_call 187; refine (shaRorZ va _ xa (by omega) (by omega) (by unfold RorZ; decide) _).mono ?_; rintro e w4 ⟨rfl, rfl⟩))
      rw [two_eq va vb vc xa PK.out.2.1.out.2.1 PK.out.2.1.out.2.2.1]
      generalize htwo : sha2 va vb vc = two at *
      have HTWO := Lib.hid htwo
      have K2' := Lib.hid ((Blk.drew (Blk.drewN PK.out.2.2.2.1.out nq)).below HB3.out (by simpa using hlt2))
      have V8' := Lib.hid (PK.out.2.2.2.2.2.2.2.2.2.2.2.1.out)
      clear htwo xa
      go_wp2_with (first | (refine wpList_store_blk rfl 261 _ _ rfl (w.heap.size + 1 + 1) _ rfl rfl 261 _ K2'.out (by rw [u32s_size, V8'.out]; rfl) (by kernel_rfl) (by intro v hv; simp at hv; rcases hv with rfl | rfl | rfl | rfl | rfl | rfl | rfl | rfl <;> rfl) ?_; intro w5 hk5 hg5))
      have Q : u32s (shaRound v (shaK.getD k 0) ((shaW s).getD k 0)) = u32s [add2 one two, va, vb, vc, add2 vd one, ve, vf, vg] := by
        obtain ⟨h0, h1, h2, h3, h4, h5, h6, h7⟩ := PK.out.1.out
        have h8 : (shaW s).getD k 0 = wk := PK.out.2.2.2.2.2.2.2.2.2.1.out
        have h9 := HONE.out
        have h10 := HTWO.out
        simp only [shaRound, h0, h1, h2, h3, h4, h5, h6, h7, h8]
        rw [show shaK.getD k 0 = shaK[k]?.getD 0 from rfl, h9, h10]
      have hsz : w.heap.size + 1 + 1 < w3.heap.size := K2'.out.lt
      rw [add2_cast, add2_cast] at hk5
      go_roundw
      case rel =>
        refine ⟨k + 1, PK.out.2.2.2.2.2.2.2.2.2.2.2.2.1.out, by go_num, ?_, ?_, ?_, ?_⟩
        · rw [PK.out.2.2.1.out, Q]; exact hk5
        · exact ((Blk.drew (Blk.drewN PK.out.2.2.2.2.1.out nq)).below HB3.out (by simp; omega)).grown hg5 (by simp; omega)
        · exact ((Blk.drew (Blk.drewN PK.out.2.2.2.2.2.1.out nq)).below HB3.out (by simp; omega)).grown hg5 (by simp)
        · have hB := PK.out.2.2.2.2.2.2.1.out
          exact ((below_drewN hB nq).drew.trans (HB3.out.mono hB.size)).trans (below_grown hg5 (by omega) (by omega))
      case measure => simp [intOf]; have := PK.out.2.2.2.2.2.2.2.2.2.2.2.2.1.out; omega
    · obtain rfl : k = 64 := by omega
      rw [show ((64 : Nat) : Int) = 64 from rfl]
      have hv8 := Lib.hid (shaRounds_length h (shaW s) H8.out 64)
      have HE : Hid (shaBlock h s = List.zipWith add2 (shaRounds h (shaW s) 64) h) := rfl
      generalize shaRounds h (shaW s) 64 = v at *
      go_wp2_with fail
      go_loopw [96] (fun c wr => ∃ k : Nat, k ≤ 8 ∧ c = .int .i64 k ∧ Blk wr (w.heap.size + 1 + 1) (u32s (shaSum v h k)) 261 ∧ Blk wr w.heap.size (u32s h) 261 ∧ Blk wr (w.heap.size + 1) (u32s (List.replicate 8 0)) 261 ∧ Below w.heap.size w wr) (fun c _ => 8 - (intOf c).toNat)
      case atStart => exact ⟨0, by omega, rfl, k2, k0, k1, hb⟩
      case round =>
        clear k2 k0 k1 hb
        obtain ⟨k, hk, rfl, k2, k0, k1, hb⟩ := hrel
        have hl8 := shaSum_length v h k hv8.out H8.out hk
        by_cases hlt : k < 8
        · have hk8 : (k : Int) < 8 := by omega
          have hk0 : (0 : Int) ≤ k := by omega
          have qv := k2.cell k
          have zv := k2.frozen k
          have qh := k0.cell k
          rw [u32s_get _ _ (by omega), shaSum_getD v h k hv8.out H8.out hlt] at qv
          rw [u32s_get _ _ (by rw [H8.out]; omega)] at qh
          have HS := Lib.hid (shaSum_set v h k hv8.out H8.out hlt)
          have K2 := Lib.hid k2
          have K0 := Lib.hid k0
          have K1 := Lib.hid k1
          have HB := Lib.hid hb
          clear k2 k0 k1 hb hl8
          generalize hx : v.getD k 0 = x at *
          generalize hy : h.getD k 0 = y at *
          clear hx hy
          go_wp2_with fail
          refine wp_region_tail 8 (by kernel_rfl) (by kernel_rfl) ?_
          simp only [List.take_succ_cons, List.take_zero, List.drop_succ_cons, List.drop_zero]
          repeat still_step
          refine wpStill_nil ?_
          go_wp2_with fail
          go_roundw
          case rel =>
            refine ⟨k + 1, by omega, by go_num, ?_, ?_, ?_, ?_⟩
            · rw [add2_cast]
              have h1 := K2.out.setCell k (.int .u32 (add2 x y : Nat))
              rw [u32s_set, HS.out] at h1
              exact Blk.drew h1
            · exact Blk.drew (K0.out.setOther (by simp; omega) _)
            · exact Blk.drew (K1.out.setOther (by simp) _)
            · exact (HB.out.setCell (by simp; omega) _).drew
          case measure => simp [intOf]; omega
        · obtain rfl : k = 8 := by omega
          have hfin := shaSum_all v h hv8.out H8.out
          rw [hfin, ← HE.out] at k2
          have hbl := shaBlock_length h s H8.out
          have K2 := Lib.hid k2
          have K1 := Lib.hid k1
          clear k2 k0 k1 hfin hl8
          go_wp2_with (first | (refine wpList_load_blk rfl 261 _ rfl (w.heap.size + 1 + 1) rfl 261 (u32s (shaBlock h s)) _ K2.out Tryz.underlying261 rfl (by rw [u32s_size, hbl]; kernel_rfl) ?_) | (refine wpList_store_blk rfl 261 _ _ rfl (w.heap.size + 1) (u32s (shaBlock h s)) rfl rfl 261 _ K1.out (by rw [u32s_size, u32s_size, hbl]; rfl) (by rw [u32s_size, hbl]; kernel_rfl) (u32s_one _) ?_; intro w1 hk1 hg1))
          exact bodyPost_ret (v := .agg (u32s (shaBlock h s))) (results_cell_row rfl _ _ (w.heap.size + 1) 261 _ _ _ rfl hk1 Tryz.underlying261 rfl (by rw [u32s_size, hbl]; kernel_rfl)) rfl ⟨rfl, hb.trans (below_grown hg1 (by omega) hb.size)⟩
end Go.Proofs.YtjboillkhhefaaaGreatDoor
