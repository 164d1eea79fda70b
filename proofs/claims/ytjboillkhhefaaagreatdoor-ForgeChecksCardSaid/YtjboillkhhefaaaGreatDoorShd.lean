/- The program's package sha: sums of pieces. -/
import Derived.Test.YtjboillkhhefaaaGreatDoorShc
import Derived.Deep.RegionWith
set_option linter.unusedVariables false
namespace Go.Proofs.YtjboillkhhefaaaGreatDoor
open Go.RowKit

theorem len8 {l : List Nat} (h : l.length = 8) : ∃ a b c d e f g i, l = [a, b, c, d, e, f, g, i] := by
  match l, h with
  | [a, b, c, d, e, f, g, i], _ => exact ⟨a, b, c, d, e, f, g, i, rfl⟩

/-- A sum in memory: its state, the bytes that are left, how many came. -/
def StAt (w : World) (b : Nat) (h : List Nat) (r : ByteArray) (n : Int) : Prop := Blk w b (u32s h ++ #[.string r, .int .i64 n]) 264

set_option maxRecDepth 100000 in
set_option maxHeartbeats 1000000 in
theorem shaNew (w : World) :
    Calls Tryz.prog 143 #[] w fun e w' => ∃ b, e = .returned (.pointer (some ⟨b, 0, none⟩)) ∧ w.heap.size ≤ b ∧ StAt w' b shaH0 ⟨#[]⟩ 0 ∧ Below w.heap.size w w' := by
  go_enter Tryz.func143, Tryz.ntmps143
  go_wp2_with fail
  refine (shaBegin _).mono ?_
  rintro e w1 ⟨rfl, hb⟩
  simp only [u32s, shaH0, List.map]
  go_wp2_with fail
  go_ret
  exact ⟨w1.heap.size, rfl, hb.size, (Blk.new w1 (u32s shaH0 ++ #[Value.string ⟨#[]⟩, Value.int .i64 0]) 264 : Blk _ _ _ _), hb.alloc hb.size _⟩

theorem shaWith8 (a0 a1 a2 a3 a4 a5 a6 a7 : Nat) (s : ByteArray) (w : World) (hl : Hid (Lt32 [a0, a1, a2, a3, a4, a5, a6, a7])) (hs : Hid (s.size = 64)) :
    Calls Tryz.prog 183 #[.agg #[.int .u32 a0, .int .u32 a1, .int .u32 a2, .int .u32 a3, .int .u32 a4, .int .u32 a5, .int .u32 a6, .int .u32 a7], .string s] w fun e w' =>
      ∃ c0 c1 c2 c3 c4 c5 c6 c7 : Nat, e = .returned (.agg #[.int .u32 c0, .int .u32 c1, .int .u32 c2, .int .u32 c3, .int .u32 c4, .int .u32 c5, .int .u32 c6, .int .u32 c7]) ∧
        Hid (shaBlock [a0, a1, a2, a3, a4, a5, a6, a7] s = [c0, c1, c2, c3, c4, c5, c6, c7]) ∧ Below w.heap.size w w' := by
  refine (shaWith [a0, a1, a2, a3, a4, a5, a6, a7] s w rfl hl.out hs.out).mono ?_
  rintro e w' ⟨rfl, hb⟩
  obtain ⟨c0, c1, c2, c3, c4, c5, c6, c7, hc⟩ := len8 (shaBlock_length [a0, a1, a2, a3, a4, a5, a6, a7] s rfl)
  exact ⟨c0, c1, c2, c3, c4, c5, c6, c7, by rw [hc]; rfl, hc, hb⟩

theorem stAt_set (w3 : World) (b a0 a1 a2 a3 a4 a5 a6 a7 c0 c1 c2 c3 c4 c5 c6 c7 : Nat) (r r' : ByteArray) (n : Int)
    (h : Blk w3 b #[.int .u32 a0, .int .u32 a1, .int .u32 a2, .int .u32 a3, .int .u32 a4, .int .u32 a5, .int .u32 a6, .int .u32 a7, .string r, .int .i64 n] 264) :
    Blk (((((((((w3.setCell ⟨b, 0, none⟩ (.int .u32 c0)).setCell ⟨b, 1, none⟩ (.int .u32 c1)).setCell ⟨b, 2, none⟩ (.int .u32 c2)).setCell ⟨b, 3, none⟩ (.int .u32 c3)).setCell ⟨b, 4, none⟩ (.int .u32 c4)).setCell ⟨b, 5, none⟩ (.int .u32 c5)).setCell ⟨b, 6, none⟩ (.int .u32 c6)).setCell ⟨b, 7, none⟩ (.int .u32 c7)).setCell ⟨b, 8, none⟩ (.string r')) b #[.int .u32 c0, .int .u32 c1, .int .u32 c2, .int .u32 c3, .int .u32 c4, .int .u32 c5, .int .u32 c6, .int .u32 c7, .string r', .int .i64 n] 264 ∧
      w3.grownBy (((((((((w3.setCell ⟨b, 0, none⟩ (.int .u32 c0)).setCell ⟨b, 1, none⟩ (.int .u32 c1)).setCell ⟨b, 2, none⟩ (.int .u32 c2)).setCell ⟨b, 3, none⟩ (.int .u32 c3)).setCell ⟨b, 4, none⟩ (.int .u32 c4)).setCell ⟨b, 5, none⟩ (.int .u32 c5)).setCell ⟨b, 6, none⟩ (.int .u32 c6)).setCell ⟨b, 7, none⟩ (.int .u32 c7)).setCell ⟨b, 8, none⟩ (.string r')) (some b) :=
  by
  refine ⟨?_, grownBy_trans (grownBy_trans (grownBy_trans (grownBy_trans (grownBy_trans (grownBy_trans (grownBy_trans (grownBy_trans (grownBy_set _ b 0 _) (grownBy_set _ b 1 _)) (grownBy_set _ b 2 _)) (grownBy_set _ b 3 _)) (grownBy_set _ b 4 _)) (grownBy_set _ b 5 _)) (grownBy_set _ b 6 _)) (grownBy_set _ b 7 _)) (grownBy_set _ b 8 _)⟩
  have h1 := ((((((((h.setCell 0 (.int .u32 c0)).setCell 1 (.int .u32 c1)).setCell 2 (.int .u32 c2)).setCell 3 (.int .u32 c3)).setCell 4 (.int .u32 c4)).setCell 5 (.int .u32 c5)).setCell 6 (.int .u32 c6)).setCell 7 (.int .u32 c7)).setCell 8 (.string r')
  simp only [List.setIfInBounds_toArray, List.set_cons_zero, List.set_cons_succ] at h1
  exact h1

set_option maxRecDepth 100000 in
set_option maxHeartbeats 1000000 in
theorem shaBlocksOf (b : Nat) (h0 : List Nat) (r0 : ByteArray) (n : Int) (w : World) (hr : r0.size ≤ 1099511627776) (h8 : h0.length = 8) (hl : Lt32 h0) (hst : StAt w b h0 r0 n) :
    Calls Tryz.prog 175 #[.pointer (some ⟨b, 0, none⟩)] w fun e w' =>
      e = .returned (.tuple #[]) ∧ StAt w' b (shaBlocks h0 r0 (r0.size / 64)) (r0.extract (64 * (r0.size / 64)) r0.size) n ∧ w.grownBy w' (some b) := by
  have HR := Lib.hid hr
  have H8 := Lib.hid h8
  have HL := Lib.hid hl
  have HST := Lib.hid hst
  clear hr h8 hl hst
  go_enter Tryz.func175, Tryz.ntmps175
  go_wp2_with fail
  go_loopg [] (r0.size / 64) (fun g wr => ∃ k, k + g = r0.size / 64 ∧ StAt wr b (shaBlocks h0 r0 k) (r0.extract (64 * k) r0.size) n ∧ w.grownBy wr (some b))
  case atStart => exact ⟨0, by omega, by rw [Nat.mul_zero, ext_all]; exact HST.out, grownBy_refl _ _⟩
  case round =>
    obtain ⟨k, hk, hst, hg⟩ := hrel
    have HK := Lib.hid hk
    have HG := Lib.hid hg
    have hrs := ext_size r0 (64 * k) r0.size
    rw [Nat.min_self] at hrs
    have hrs' := HR.out
    obtain ⟨a0, a1, a2, a3, a4, a5, a6, a7, hh⟩ := len8 (shaBlocks_length h0 r0 H8.out k)
    have HH := Lib.hid hh
    have HLT := Lib.hid (Lt32.blocks HL.out r0 k)
    rw [hh] at hst
    generalize hrr : r0.extract (64 * k) r0.size = r at *
    have HRR := Lib.hid hrr
    have hst' : Blk wr b #[.int .u32 a0, .int .u32 a1, .int .u32 a2, .int .u32 a3, .int .u32 a4, .int .u32 a5, .int .u32 a6, .int .u32 a7, .string r, .int .i64 n] 264 := hst
    have q0 := hst'.cell 0
    have q1 := hst'.cell 1
    have q2 := hst'.cell 2
    have q3 := hst'.cell 3
    have q4 := hst'.cell 4
    have q5 := hst'.cell 5
    have q6 := hst'.cell 6
    have q7 := hst'.cell 7
    have q8 := hst'.cell 8
    simp at q0 q1 q2 q3 q4 q5 q6 q7 q8
    have HB := Lib.hid hst'
    clear hst hst' hrr hh hg
    by_cases h64 : 64 ≤ r.size
    · obtain ⟨g, rfl⟩ : ∃ g, gk = g + 1 := ⟨gk - 1, by omega⟩
      have hsz : (r.extract 0 64).size = 64 := by rw [ext_size]; omega
      have HSZ := Lib.hid hsz
      clear hsz hrs hk
      go_wp2_with fail
      have HLT' : Hid (Lt32 [a0, a1, a2, a3, a4, a5, a6, a7]) := Lib.hid (HH.out ▸ HLT.out)
      have hblt := HB.out.lt
      have PK := Lib.hid (And.intro HK (And.intro HG (And.intro HH (And.intro HLT (And.intro HRR (And.intro HB (And.intro HR (And.intro H8 (And.intro HL hblt)))))))))
      clear HK HG HH HLT HRR HB HR H8 HL HST hblt hrs'
      go_region_with (first | (go_at_call 183; refine (shaWith8 a0 a1 a2 a3 a4 a5 a6 a7 _ _ HLT' HSZ).mono ?_; rintro e w3 ⟨c0, c1, c2, c3, c4, c5, c6, c7, rfl, HC, hb3⟩; have hB3 := Lib.hid (Blk.below (Blk.drew PK.out.2.2.2.2.2.1.out) hb3 PK.out.2.2.2.2.2.2.2.2.2); have z0 := hB3.out.frozen 0; have z1 := hB3.out.frozen 1; have z2 := hB3.out.frozen 2; have z3 := hB3.out.frozen 3; have z4 := hB3.out.frozen 4; have z5 := hB3.out.frozen 5; have z6 := hB3.out.frozen 6; have z7 := hB3.out.frozen 7; have y0 : w3.cell? ⟨b, 0, none⟩ = some (.int .u32 a0) := hB3.out.cell 0; have y1 : w3.cell? ⟨b, 1, none⟩ = some (.int .u32 a1) := hB3.out.cell 1; have y2 : w3.cell? ⟨b, 2, none⟩ = some (.int .u32 a2) := hB3.out.cell 2; have y3 : w3.cell? ⟨b, 3, none⟩ = some (.int .u32 a3) := hB3.out.cell 3; have y4 : w3.cell? ⟨b, 4, none⟩ = some (.int .u32 a4) := hB3.out.cell 4; have y5 : w3.cell? ⟨b, 5, none⟩ = some (.int .u32 a5) := hB3.out.cell 5; have y6 : w3.cell? ⟨b, 6, none⟩ = some (.int .u32 a6) := hB3.out.cell 6; have y7 : w3.cell? ⟨b, 7, none⟩ = some (.int .u32 a7) := hB3.out.cell 7; have y8 : w3.cell? ⟨b, 8, none⟩ = some (.string r) := hB3.out.cell 8; have z8 := hB3.out.frozen 8; clear q0 q1 q2 q3 q4 q5 q6 q7 q8))
      all_goals
        go_wp2_with fail
        have hrs : r.size = r0.size - 64 * k := by rw [← PK.out.2.2.2.2.1.out, ext_size, Nat.min_self]
        have hkk := PK.out.1.out
        go_roundg g
        case measure => omega
        case rel =>
          have SET := stAt_set w3 b a0 a1 a2 a3 a4 a5 a6 a7 c0 c1 c2 c3 c4 c5 c6 c7 r (r.extract 64 r.size) n hB3.out
          have G3 : wr.grownBy w3 (some b) := ⟨hb3.os, hb3.tape, hb3.output, hb3.size, fun i hi _ => hb3.block i hi⟩
          refine ⟨k + 1, by omega, ?_, grownBy_trans PK.out.2.1.out (grownBy_trans G3 SET.2)⟩
          have e1 : shaBlocks h0 r0 (k + 1) = [c0, c1, c2, c3, c4, c5, c6, c7] := by
            rw [shaBlocks, PK.out.2.2.1.out, ← HC.out, ← PK.out.2.2.2.2.1.out, ext_ext _ _ _ _ _ (by omega)]
            rfl
          have e2 : r0.extract (64 * (k + 1)) r0.size = r.extract 64 r.size := by
            rw [← PK.out.2.2.2.2.1.out, ext_tail, Nat.mul_add, Nat.mul_one]
          rw [e1, e2]
          exact SET.1
    · obtain rfl : gk = 0 := by omega
      have hd : decide (64 ≤ r.size) = false := by simpa using h64
      clear q0 q1 q2 q3 q4 q5 q6 q7
      go_wp2_with fail
      go_end0
      refine ⟨rfl, ?_, HG.out⟩
      have e : k = r0.size / 64 := by have := HK.out; omega
      rw [← e, HRR.out, HH.out]
      exact HB.out
end Go.Proofs.YtjboillkhhefaaaGreatDoor
