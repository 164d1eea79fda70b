/- The program's mac.Of. -/
import Derived.Test.YtjboillkhhefaaaGreatDoorMac
import Derived.Deep.CutBlock
import Derived.Deep.DeepCutAuto
set_option linter.unusedVariables false
namespace Go.Proofs.YtjboillkhhefaaaGreatDoor
open Go.RowKit

/-- Texts in a row of memory. -/
def PartsAt (w : World) (pb : Nat) (l : List ByteArray) : Prop := pb < w.heap.size ∧ ∀ i, i < l.length → w.cell? ⟨pb, i, none⟩ = some (.string (l.getD i ⟨#[]⟩))
theorem PartsAt.below {w w' : World} {pb : Nat} {l : List ByteArray} (h : PartsAt w pb l) {B : Nat} (hb : Below B w w') (hB : pb < B) : PartsAt w' pb l :=
  ⟨Nat.lt_of_lt_of_le h.1 hb.size, fun i hi => (hb.cell (p := ⟨pb, i, none⟩) hB).trans (h.2 i hi)⟩
theorem joinB_take (l : List ByteArray) (k : Nat) (hk : k < l.length) : joinB (l.take (k + 1)) = joinB (l.take k) ++ l.getD k ⟨#[]⟩ := by
  rw [List.take_succ_eq_append_getElem hk, joinB_snoc]; simp [List.getD, hk]
theorem joinBGo_size (l : List ByteArray) (a : ByteArray) : (l.foldl (fun a b => a ++ b) a).size = a.size + (l.map ByteArray.size).sum := by
  induction l generalizing a with
  | nil => simp
  | cons b l ih => rw [List.foldl_cons, ih, ByteArray.size_append, List.map_cons, List.sum_cons]; omega
theorem joinB_size (l : List ByteArray) : (joinB l).size = (l.map ByteArray.size).sum := by
  rw [joinB, joinBGo_size]; simp [ByteArray.size]

theorem joinB_take_le (l : List ByteArray) (k : Nat) : (joinB (l.take k)).size ≤ (joinB l).size := by
  rw [joinB_size, joinB_size]
  conv => rhs; rw [← List.take_append_drop k l]
  rw [List.map_append, List.sum_append]; omega

set_option maxRecDepth 100000 in
set_option maxHeartbeats 1000000 in
theorem macOfC (pb c : Nat) (key : ByteArray) (l : List ByteArray) (w : World) (hk : key.size ≤ 1099511627) (hl : (joinB l).size ≤ 1099511627) (hn : l.length ≤ 10) (hp : PartsAt w pb l) :
    Calls Tryz.prog 98 #[.string key, .slice (some ⟨pb, 0, none⟩) l.length c] w fun e w' => e = .returned (.string (macOf key (joinB l))) ∧ Below w.heap.size w w' := by
  have hpb := hp.1
  have HP := Lib.hid hp
  have HLT := Lib.hid hl
  have hn' : (l.length : Int) ≤ 10 := by omega
  clear hp hl
  have HF : Hid (macFit key = if 64 < key.size then shaOf key else key) := rfl
  go_enter Tryz.func98, Tryz.ntmps98
  go_upto_if 10 with (fail)
  go_cut [0] (fun k wc => k = .string (macFit key) ∧ Below w.heap.size w wc)
  case first =>
    by_cases h64 : 64 < key.size
    · have H64 := Lib.hid h64
      have hd : decide (64 < key.size) = true := by simpa using h64
      go_wp2_with fail
      refine (shaOfC key _ (by omega)).mono ?_
      rintro e w1 ⟨rfl, hb1⟩
      go_wp2_with fail
      go_meet
      case rel => exact ⟨by rw [HF.out, if_pos H64.out], hb1⟩
    · have H64 := Lib.hid h64
      have hd : decide (64 < key.size) = false := by simpa using h64
      go_wp2_with fail
      go_meet
      case rel => exact ⟨by rw [HF.out, if_neg H64.out], Below.refl _ _⟩
  case rest =>
    obtain ⟨rfl, hb⟩ := hcut
    have hk0 := macFit_size key
    have HK : Hid (macKey key = macFit key ++ ⟨Array.replicate (64 - (macFit key).size) 0⟩) := rfl
    have HM : Hid (macOf key (joinB l) = shaOf (turnB (macKey key) 92 ++ shaOf (turnB (macKey key) 54 ++ joinB l))) := rfl
    have h1 := macKey_size key
    generalize macFit key = k0 at *
    go_wp2_with fail
    rw [show (64 : Int) - (k0.size : Int) = ((64 - k0.size : Nat) : Int) from by omega]
    refine (Tryz.strings_Repeat ⟨#[0]⟩ (64 - k0.size) _ (by omega) (by show 1 * _ ≤ _; omega)).mono ?_
    rintro e w2 ⟨rfl, hb2⟩
    have hrep : (⟨(Lib.repeatL (⟨#[0]⟩ : ByteArray).data.toList (64 - k0.size)).toArray⟩ : ByteArray) = ⟨Array.replicate (64 - k0.size) 0⟩ := rep_zero _
    rw [hrep]
    have hz := zeroB_size (64 - k0.size)
    have hz1 : ¬ 9223372036854775807 < k0.size + (64 - k0.size) := by omega
    have hz2 : ¬ 9223372036854775807 < k0.size + (⟨Array.replicate (64 - k0.size) 0⟩ : ByteArray).size := by rw [hz]; omega
    have hB2 : Below w.heap.size w w2 := hb.trans (hb2.mono hb.size)
    have HB2 := Lib.hid hB2
    have HB := Lib.hid (And.intro hb hb2)
    clear hz hrep hb hb2 hB2
    go_wp2_with fail
    refine (shaNew _).mono ?_
    rintro e w3 ⟨b, rfl, hle, hst, hb3⟩
    rw [← HK.out]
    have HST := Lib.hid (SumAt.zero hst)
    have hB3 := HB2.out.trans (hb3.mono HB2.out.size)
    have HB3 := Lib.hid hB3
    clear hst hb3 hz1 hz2 hB3
    go_wp2_with fail
    refine (macWith 54 _).mono ?_
    rintro e w4 ⟨rfl, rfl⟩
    go_wp2_with fail
    refine (macTurned w3.heap.size (macKey key) 54 _ (by omega) ((Blk.new w3 _ _).cell 0)).mono ?_
    rintro e w5 ⟨rfl, hb5⟩
    have hSize3 := HB3.out.size
    have hble : w.heap.size ≤ b := by have := HB2.out.size; omega
    have hbl : b < w3.heap.size := (HST.out : Blk _ _ _ _).lt
    have HB5 : Hid (Below w.heap.size w w5) := Lib.hid ((HB3.out.alloc hSize3 _).trans (hb5.mono (by simp; omega)))
    have HST5 : Hid (SumAt w5 b ⟨#[]⟩) := Lib.hid (Blk.below (Blk.alloc HST.out _) hb5 (by simp; omega))
    have ht54 := turnB_size (macKey key) 54
    clear hb5
    go_wp2_with fail
    refine (shaAdd b ⟨#[]⟩ (turnB (macKey key) 54) _ (by show 0 + _ ≤ _; omega) HST5.out).mono ?_
    rintro e w6 ⟨rfl, hst6, hg6⟩
    rw [empty_app] at hst6
    have HST6 := Lib.hid hst6
    have HB6 : Hid (Below w.heap.size w w6) := Lib.hid (HB5.out.trans (below_grown hg6 hble HB5.out.size))
    clear hst6 hg6
    go_wp2_with fail
    have HINS : Hid (∀ k, k ≤ l.length → (turnB (macKey key) 54 ++ joinB (l.take k)).size ≤ 1099511700) := Lib.hid (fun k _ => by
      have := joinB_take_le l k
      have := HLT.out
      rw [ByteArray.size_append, ht54]; omega)
    have H0 : Hid (turnB (macKey key) 54 ++ joinB (l.take 0) = turnB (macKey key) 54) := Lib.hid (by rw [List.take_zero]; exact app_empty _)
    go_loopw [27] (fun c wr => ∃ k : Nat, k ≤ l.length ∧ c = .int .i64 k ∧ SumAt wr b (turnB (macKey key) 54 ++ joinB (l.take k)) ∧ Below w.heap.size w wr) (fun c _ => l.length - (intOf c).toNat)
    case atStart => exact ⟨0, Nat.zero_le _, rfl, by rw [H0.out]; exact HST6.out, HB6.out⟩
    case round =>
      obtain ⟨k, hk, rfl, hst, hb⟩ := hrel
      have HS := Lib.hid hst
      have HBW := Lib.hid hb
      have hpp := HP.out.below hb hpb
      by_cases hlt : k < l.length
      · have q := hpp.2 k hlt
        have hj := HINS.out (k + 1) hlt
        rw [joinB_take _ _ hlt, ← app_assoc, ByteArray.size_append] at hj
        have HJ := Lib.hid (joinB_take l k hlt)
        generalize hs0 : l.getD k ⟨#[]⟩ = s0 at *
        clear hpp hst hb hs0
        go_wp2_with fail
        refine (shaAdd b _ s0 _ (by omega) HS.out).mono ?_
        rintro e w7 ⟨rfl, hst7, hg7⟩
        rw [app_assoc, ← HJ.out] at hst7
        have HST7 := Lib.hid hst7
        have HB7 := Lib.hid (HBW.out.trans (below_grown hg7 hble HBW.out.size))
        clear hst7 hg7
        go_wp2_with fail
        go_roundw
        case rel => exact ⟨k + 1, by omega, by go_num, HST7.out, HB7.out⟩
        case measure => simp [intOf]; omega
      · obtain rfl : k = l.length := by omega
        rw [List.take_length] at HS
        have hsz := HINS.out l.length (Nat.le_refl _)
        rw [List.take_length] at hsz
        clear hpp hst hb
        go_wp2_with fail
        refine (macWith 92 _).mono ?_
        rintro e w8 ⟨rfl, rfl⟩
        go_wp2_with fail
        refine (macTurned wr.heap.size (macKey key) 92 _ (by omega) ((Blk.new wr _ _).cell 0)).mono ?_
        rintro e w9 ⟨rfl, hb9⟩
        have hwr := HBW.out.size
        have hbr : b < wr.heap.size := (HS.out : Blk _ _ _ _).lt
        have HB9 : Hid (Below w.heap.size w w9) := Lib.hid ((HBW.out.alloc hwr _).trans (hb9.mono (by simp; omega)))
        have HST9 : Hid (SumAt w9 b (turnB (macKey key) 54 ++ joinB l)) := Lib.hid (Blk.below (Blk.alloc HS.out _) hb9 (by simp; omega))
        clear hb9
        go_wp2_with fail
        refine (shaSum_ b (turnB (macKey key) 54 ++ joinB l) _ (by omega) HST9.out).mono ?_
        rintro e w10 ⟨rfl, hb10⟩
        have h92 := turnB_size (macKey key) 92
        have h32 := shaOf_size (turnB (macKey key) 54 ++ joinB l)
        have HB10 : Hid (Below w.heap.size w w10) := Lib.hid (HB9.out.trans (hb10.mono HB9.out.size))
        have hcat : ¬ 9223372036854775807 < (turnB (macKey key) 92).size + (shaOf (turnB (macKey key) 54 ++ joinB l)).size := by omega
        have hcat2 : (turnB (macKey key) 92 ++ shaOf (turnB (macKey key) 54 ++ joinB l)).size ≤ 549755813888 := by rw [ByteArray.size_append]; omega
        clear hb10
        go_wp2_with fail
        refine (shaOfC _ _ hcat2).mono ?_
        rintro e w11 ⟨rfl, hb11⟩
        go_wp2_with fail
        go_ret
        exact ⟨ret_str (by rw [HM.out]), HB10.out.trans (hb11.mono HB10.out.size)⟩
end Go.Proofs.YtjboillkhhefaaaGreatDoor
