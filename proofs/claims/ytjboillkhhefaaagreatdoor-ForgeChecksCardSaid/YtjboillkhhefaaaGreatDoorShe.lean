/- The program's package sha: Add, Sum, Of. -/
import Derived.Test.YtjboillkhhefaaaGreatDoorShd
import Derived.Deep.RegionWith
import Derived.Deep.DeepCutAuto
import Derived.Test.YtjboillkhhefaaaGreatDoorLib
set_option linter.unusedVariables false
namespace Go.Proofs.YtjboillkhhefaaaGreatDoor
open Go.RowKit

/-- A sum in memory of all these bytes. -/
def SumAt (w : World) (b : Nat) (a : ByteArray) : Prop := StAt w b (sumH a) (sumR a) a.size
theorem SumAt.zero {w : World} {b : Nat} (h : StAt w b shaH0 ⟨#[]⟩ 0) : SumAt w b ⟨#[]⟩ := h

set_option maxRecDepth 100000 in
set_option maxHeartbeats 400000 in
theorem shaAdd (b : Nat) (a s : ByteArray) (w : World) (hs : a.size + s.size ≤ 1099511627776) (hst : SumAt w b a) :
    Calls Tryz.prog 144 #[.pointer (some ⟨b, 0, none⟩), .string s] w fun e w' => e = .returned (.tuple #[]) ∧ SumAt w' b (a ++ s) ∧ w.grownBy w' (some b) := by
  have hr := sumR_size a
  have hrs : (sumR a).size ≤ 64 := by omega
  have HRL : Hid ((sumR a).size ≤ a.size) := Lib.hid (by omega)
  have HM := Lib.hid (sum_more a s)
  have HL := Lib.hid (sumH_length a)
  have HT := Lib.hid (sumH_lt a)
  have hst' : StAt w b (sumH a) (sumR a) a.size := hst
  obtain ⟨a0, a1, a2, a3, a4, a5, a6, a7, hh⟩ := len8 (sumH_length a)
  have HH := Lib.hid hh
  rw [hh] at hst'
  generalize hrr : sumR a = r at *
  have HRR := Lib.hid hrr
  have hb : Blk w b #[.int .u32 a0, .int .u32 a1, .int .u32 a2, .int .u32 a3, .int .u32 a4, .int .u32 a5, .int .u32 a6, .int .u32 a7, .string r, .int .i64 a.size] 264 := hst'
  have q8 := hb.cell 8
  have q9 := hb.cell 9
  simp at q8 q9
  have z8 := hb.frozen 8
  have z9 := hb.frozen 9
  have HB := Lib.hid hb
  have HS := Lib.hid hs
  have b1 : (a.size : Int) + s.size ≤ 1099511627776 := by omega
  have b2 : r.size + s.size ≤ 1099511627840 := by omega
  clear hst' hh hrr hb hr hst hs
  go_enter Tryz.func144, Tryz.ntmps144
  go_wp2_with fail
  have hb1 : StAt ((w.setCell ⟨b, 9, none⟩ (.int .i64 ((a.size : Int) + s.size))).setCell ⟨b, 8, none⟩ (.string (r ++ s))) b [a0, a1, a2, a3, a4, a5, a6, a7] (r ++ s) ((a.size : Int) + s.size) := by
    have h1 := (HB.out.setCell 9 (.int .i64 ((a.size : Int) + s.size))).setCell 8 (.string (r ++ s))
    simp only [List.setIfInBounds_toArray, List.set_cons_zero, List.set_cons_succ] at h1
    exact h1
  have hsz : (r ++ s).size = r.size + s.size := ByteArray.size_append
  refine (shaBlocksOf b _ (r ++ s) _ _ (by have := HS.out; have := HRL.out; omega) rfl (HH.out ▸ HT.out) hb1).mono ?_
  rintro e w2 ⟨rfl, hst2, hg2⟩
  have HST2 := Lib.hid hst2
  clear hst2 hb1
  go_wp2_with fail
  go_end0
  refine ⟨rfl, ?_, grownBy_trans (grownBy_trans (grownBy_set w b 9 _) (grownBy_set _ b 8 _)) hg2⟩
  have h1 := HST2.out
  rw [← HH.out, HM.out.1, HM.out.2] at h1
  have e : ((a ++ s).size : Int) = (a.size : Int) + s.size := by rw [ByteArray.size_append]; push_cast; rfl
  unfold SumAt
  rw [e]
  exact h1
theorem rep_zero (c : Nat) : (⟨(Lib.repeatL [0] c).toArray⟩ : ByteArray) = ⟨Array.replicate c 0⟩ := by
  apply bytes_ext
  induction c with
  | zero => rfl
  | succ c ih => simp only [Lib.repeatL] at *; simp [List.replicate_succ] at *; exact ih
theorem app_assoc (a b c : ByteArray) : a ++ b ++ c = a ++ (b ++ c) := by apply bytes_ext; simp

set_option maxRecDepth 100000 in
set_option maxHeartbeats 2000000 in
theorem shaSum_ (b : Nat) (a : ByteArray) (w : World) (hs : a.size ≤ 1099511627776) (hst : SumAt w b a) :
    Calls Tryz.prog 147 #[.pointer (some ⟨b, 0, none⟩)] w fun e w' => e = .returned (.string (shaOf a)) ∧ Below w.heap.size w w' := by
  have hr := sumR_size a
  have hrs : (sumR a).size < 64 := by omega
  have HRL : Hid ((sumR a).size = a.size % 64) := Lib.hid hr
  have HL := Lib.hid (sumH_length a)
  have HT := Lib.hid (sumH_lt a)
  have HM := Lib.hid (fun s => sum_more a s)
  have hst' : StAt w b (sumH a) (sumR a) a.size := hst
  obtain ⟨a0, a1, a2, a3, a4, a5, a6, a7, hh⟩ := len8 (sumH_length a)
  have HH := Lib.hid hh
  rw [hh] at hst'
  generalize hrr : sumR a = r at *
  have HRR := Lib.hid hrr
  have hb : Blk w b #[.int .u32 a0, .int .u32 a1, .int .u32 a2, .int .u32 a3, .int .u32 a4, .int .u32 a5, .int .u32 a6, .int .u32 a7, .string r, .int .i64 a.size] 264 := hst'
  have q0 := hb.cell 0
  have q1 := hb.cell 1
  have q2 := hb.cell 2
  have q3 := hb.cell 3
  have q4 := hb.cell 4
  have q5 := hb.cell 5
  have q6 := hb.cell 6
  have q7 := hb.cell 7
  have q8 := hb.cell 8
  have q9 := hb.cell 9
  simp at q0 q1 q2 q3 q4 q5 q6 q7 q8 q9
  have b1 : (a.size : Int) ≤ 1099511627776 := by omega
  have hrs2 : (r.size : Int) < 64 := by omega
  clear hst' hh hrr hb hr hst hs
  go_enter Tryz.func147, Tryz.ntmps147
  go_wp2_with fail
  obtain ⟨w0, hw0⟩ : ∃ w0, w0 = w.alloc (.cells #[.int .u32 a0, .int .u32 a1, .int .u32 a2, .int .u32 a3, .int .u32 a4, .int .u32 a5, .int .u32 a6, .int .u32 a7, .string r, .int .i64 a.size] 264) := ⟨_, rfl⟩
  rw [← hw0]
  have B0 : Blk w0 w.heap.size #[.int .u32 a0, .int .u32 a1, .int .u32 a2, .int .u32 a3, .int .u32 a4, .int .u32 a5, .int .u32 a6, .int .u32 a7, .string r, .int .i64 a.size] 264 := by rw [hw0]; exact Blk.new _ _ _
  have hb0 : Below w.heap.size w w0 := by rw [hw0]; exact (Below.refl _ _).alloc (Nat.le_refl _) _
  have hlt0 := B0.lt
  have p8 : w0.cell? ⟨w.heap.size, 8, none⟩ = some (.string r) := B0.cell 8
  have p9 : w0.cell? ⟨w.heap.size, 9, none⟩ = some (.int .i64 a.size) := B0.cell 9
  rw [show (128 - (r.size : Int) - 1 - 8) % 64 = ((119 - r.size) % 64 : Nat) from by omega]
  obtain ⟨c, hc⟩ : ∃ c, c = (119 - r.size) % 64 := ⟨_, rfl⟩
  rw [← hc]
  have hc64 : c < 64 := by omega
  have hz1 : (r ++ ⟨#[128]⟩ : ByteArray).size = r.size + 1 := ByteArray.size_append
  have hz2 : (⟨(Lib.repeatL [0] c).toArray⟩ : ByteArray).size = c := by rw [rep_zero]; simp [ByteArray.size]
  have hz3 : (r ++ ⟨#[128]⟩ ++ ⟨(Lib.repeatL [0] c).toArray⟩ : ByteArray).size = r.size + 1 + c := by rw [ByteArray.size_append, hz1, hz2]
  have PK := Lib.hid (And.intro HRL (And.intro HL (And.intro HT (And.intro HM (And.intro HH (And.intro HRR (And.intro hb0 (And.intro hc B0))))))))
  have HB0 := Lib.hid B0
  have HZ1 := Lib.hid hz1
  have HZ2 := Lib.hid hz2
  have HZ3 := Lib.hid hz3
  have z1 : ¬ 9223372036854775807 < r.size + 1 := by omega
  have z2 : ¬ 9223372036854775807 < (r ++ ⟨#[128]⟩ : ByteArray).size + (⟨(Lib.repeatL [0] c).toArray⟩ : ByteArray).size := by rw [hz1, hz2]; omega
  have hz6 : (r ++ ⟨#[128]⟩ ++ ⟨(Lib.repeatL [0] c).toArray⟩ : ByteArray).size ≤ 1099511627776 := by rw [hz3]; omega
  have z3 : (Lib.repeatL [(0 : UInt8)] c).length ≤ 64 := by rw [Lib.repeatL_length]; simp; omega
  have z4 : (⟨(Lib.repeatL [0] c).toArray⟩ : ByteArray).size ≤ 64 := by rw [hz2]; omega
  have z5 : (r ++ ⟨#[128]⟩ : ByteArray).size ≤ 65 := by rw [hz1]; omega
  clear q0 q1 q2 q3 q4 q5 q6 q7 q8 q9 HRL HL HT HM HH HRR hb0 hc B0 hw0 hz1 hz2 hz3
  have hR : Hid (((r ++ ⟨#[128]⟩ ++ ⟨(Lib.repeatL [0] c).toArray⟩ : ByteArray) ++ beB 8 (u64 ((a.size : Int) * 8))).size ≤ 200) := Lib.hid (by rw [ByteArray.size_append, beB_size, HZ3.out]; omega)
  go_cut [] (fun wc => Blk wc w.heap.size #[.int .u32 a0, .int .u32 a1, .int .u32 a2, .int .u32 a3, .int .u32 a4, .int .u32 a5, .int .u32 a6, .int .u32 a7, .string (r ++ ⟨#[128]⟩ ++ ⟨(Lib.repeatL [0] c).toArray⟩ ++ beB 8 (u64 ((a.size : Int) * 8))), .int .i64 a.size] 264 ∧ Below w.heap.size w wc)
  case first =>
    go_region_with (first
      | (go_at_call 142; refine (Tryz.strings_Repeat _ c _ (by omega) (by simp [ByteArray.size]; omega)).mono ?_; rintro e w2 ⟨rfl, hb2⟩; have B2 := Lib.hid (Blk.below (Blk.drew HB0.out) hb2 hlt0); have y8 : w2.cell? ⟨w.heap.size, 8, none⟩ = some (.string r) := B2.out.cell 8; have y9 : w2.cell? ⟨w.heap.size, 9, none⟩ = some (.int .i64 a.size) := B2.out.cell 9; have hlt2 := B2.out.lt)
      | (go_at_call 52; refine (octPut _ _ 8 _ ?_ (by omega)).mono ?_; (with_reducible exact hz6); rintro e w4 ⟨rfl, hb4⟩; have B4 := Lib.hid (Blk.below B2.out hb4 hlt2); have x8 : w4.cell? ⟨w.heap.size, 8, none⟩ = some (.string r) := B4.out.cell 8; have v8 := B4.out.frozen 8; clear B2 y8 y9))
    all_goals
      go_wp2_with fail
      go_meet
      case rel =>
        have h1 := B4.out.setCell 8 (.string (r ++ ⟨#[128]⟩ ++ ⟨(Lib.repeatL [0] c).toArray⟩ ++ beB 8 (u64 ((a.size : Int) * 8))))
        simp only [List.setIfInBounds_toArray, List.set_cons_zero, List.set_cons_succ] at h1
        have hw : IntKind.i64.wrap ((a.size : Int) * 8) = (a.size : Int) * 8 := IntWalk.i64_in _ (by omega)
        try rw [hw]
        refine ⟨h1, ?_⟩
        have hA := PK.out.2.2.2.2.2.2.1
        have hB := hA.size
        exact ((hA.drew.trans (hb2.mono hB)).trans (hb4.mono (by omega))).setCell (Nat.le_refl _) _
  case rest =>
    obtain ⟨hB, hbw⟩ := hcut
    have HBW := Lib.hid hbw
    have hst2 : StAt wc w.heap.size [a0, a1, a2, a3, a4, a5, a6, a7] (r ++ ⟨#[128]⟩ ++ ⟨(Lib.repeatL [0] c).toArray⟩ ++ beB 8 (u64 ((a.size : Int) * 8))) a.size := hB
    have HST2 := Lib.hid hst2
    have e : sumH (a ++ (⟨#[128]⟩ ++ ⟨(Lib.repeatL [0] c).toArray⟩ ++ beB 8 (u64 ((a.size : Int) * 8)))) = shaBlocks [a0, a1, a2, a3, a4, a5, a6, a7] (r ++ ⟨#[128]⟩ ++ ⟨(Lib.repeatL [0] c).toArray⟩ ++ beB 8 (u64 ((a.size : Int) * 8))) ((r ++ ⟨#[128]⟩ ++ ⟨(Lib.repeatL [0] c).toArray⟩ ++ beB 8 (u64 ((a.size : Int) * 8))).size / 64) := by
      rw [← (PK.out.2.2.2.1.out _).1, PK.out.2.2.2.2.1.out, app_assoc, app_assoc, app_assoc]
    have e2 : shaOf a = shaText (sumH (a ++ (⟨#[128]⟩ ++ ⟨(Lib.repeatL [0] c).toArray⟩ ++ beB 8 (u64 ((a.size : Int) * 8))))) := by
      have e3 : shaPad a a.size = a ++ (⟨#[128]⟩ ++ ⟨(Lib.repeatL [0] c).toArray⟩ ++ beB 8 (u64 ((a.size : Int) * 8))) := by
        have h1 := PK.out.1.out
        have h2 := PK.out.2.2.2.2.2.2.2.1
        rw [shaPad, rep_zero, h2, h1, show ((a.size : Int) * 8) = ((8 * a.size : Nat) : Int) from by omega, u64_cast _ (by omega), app_assoc, app_assoc, app_assoc]
      rw [shaOf, e3]
      rfl
    have HE := Lib.hid e
    have HE2 := Lib.hid e2
    have hlr := hR.out
    generalize (r ++ ⟨#[128]⟩ ++ ⟨(Lib.repeatL [0] c).toArray⟩ ++ beB 8 (u64 ((a.size : Int) * 8)) : ByteArray) = R at *
    clear e e2 hst2 hB hbw z1 z2 z3 z4 z5 hz6
    go_wp2_with fail
    refine (shaBlocksOf w.heap.size [a0, a1, a2, a3, a4, a5, a6, a7] R _ _ (by omega) rfl (PK.out.2.2.2.2.1.out ▸ PK.out.2.2.1.out) HST2.out).mono ?_
    rintro e w5 ⟨rfl, hst5, hg5⟩
    rw [← HE.out] at hst5
    obtain ⟨c0, c1, c2, c3, c4, c5, c6, c7, hc8⟩ := len8 (sumH_length (a ++ (⟨#[128]⟩ ++ ⟨(Lib.repeatL [0] c).toArray⟩ ++ beB 8 (u64 ((a.size : Int) * 8)))))
    rw [hc8] at hst5
    have HC := Lib.hid hc8
    have hk5 : Blk w5 w.heap.size #[.int .u32 c0, .int .u32 c1, .int .u32 c2, .int .u32 c3, .int .u32 c4, .int .u32 c5, .int .u32 c6, .int .u32 c7, .string (R.extract (64 * (R.size / 64)) R.size), .int .i64 a.size] 264 := hst5
    have q0 := hk5.cell 0
    have q1 := hk5.cell 1
    have q2 := hk5.cell 2
    have q3 := hk5.cell 3
    have q4 := hk5.cell 4
    have q5 := hk5.cell 5
    have q6 := hk5.cell 6
    have q7 := hk5.cell 7
    simp at q0 q1 q2 q3 q4 q5 q6 q7
    have hb5 : Below w.heap.size w w5 := HBW.out.trans (below_grown hg5 (Nat.le_refl _) HBW.out.size)
    have HB5 := Lib.hid hb5
    clear hst5 hk5 hc8 hg5 hb5
    go_wp2_with fail
    refine (shaTextOf [c0, c1, c2, c3, c4, c5, c6, c7] _ rfl (HC.out ▸ sumH_lt _)).mono ?_
    rintro e w6 ⟨rfl, hb6⟩
    go_wp2_with fail
    go_ret
    exact ⟨ret_str (by rw [HE2.out, HC.out]), HB5.out.trans (hb6.mono HB5.out.size)⟩

end Go.Proofs.YtjboillkhhefaaaGreatDoor
