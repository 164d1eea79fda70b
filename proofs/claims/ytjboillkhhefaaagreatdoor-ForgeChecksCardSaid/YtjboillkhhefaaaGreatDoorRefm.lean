/- The reference's sum with a key (layer 6) and tag (layer 26). -/
import Derived.Test.YtjboillkhhefaaaGreatDoorRefc
import Derived.Test.YtjboillkhhefaaaGreatDoorRefl
set_option linter.unusedVariables false
namespace Go.Proofs.YtjboillkhhefaaaGreatDoor
open Go.RowKit

set_option maxRecDepth 100000 in
set_option maxHeartbeats 1000000 in
theorem refMacOf (key all : ByteArray) (w : World) (hk : key.size ≤ 1099511627) (hl : all.size ≤ 1099511627) :
    Calls Tryz.prog 69 #[.string key, .string all] w fun e w' => e = .returned (.string (macOf key all)) ∧ Below w.heap.size w w' := by
  have HM : Hid (macOf key all = shaOf (turnB (macKey key) 92 ++ shaOf (turnB (macKey key) 54 ++ all))) := rfl
  have hf := macFit_size key
  have HZ1 := Lib.hid (shaOf_size (turnB (macKey key) 54 ++ all))
  have HZ2 := Lib.hid (turnB_size (macKey key) 92)
  have HZ3 := Lib.hid (turnB_size (macKey key) 54)
  have HZ4 := Lib.hid (macKey_size key)
  have HK : Hid (macKey key = macFit key ++ ⟨Array.replicate (64 - (macFit key).size) 0⟩) := rfl
  go_enter Tryz.func69, Tryz.ntmps69
  by_cases h64 : 64 < key.size
  have hfit : macFit key = shaOf key := by unfold macFit; rw [if_pos h64]
  have HF := Lib.hid hfit
  clear hfit
  go_wp2_with fail
  refine (refShaOf key _ (by omega)).mono ?_
  rintro e w1 ⟨rfl, hb1⟩
  rw [← HF.out]
  generalize macFit key = x at *
  clear HF
  go_wp2_with fail
  rotate_left
  have hfit : macFit key = key := by unfold macFit; rw [if_neg h64]
  rw [hfit] at HK hf
  clear hfit
  go_wp2_with fail
  obtain ⟨x, hx⟩ : ∃ x, x = key := ⟨_, rfl⟩
  have HK' : Hid (macKey key = x ++ ⟨Array.replicate (64 - x.size) 0⟩) := by rw [hx]; exact HK
  have hf' : x.size ≤ 64 := by rw [hx]; exact hf
  have hb1 : Below w.heap.size w w := Below.refl _ _
  clear HK hf
  have HK := HK'
  have hf := hf'
  clear HK' hf'
  rw [← hx]
  clear hx
  all_goals
    go_loop [0] (fun t => ∃ k : Nat, k ≤ 64 - x.size ∧ t = .string (x ++ ⟨Array.replicate k 0⟩)) (fun t => match t with | .string u => 64 - u.size | _ => 0)
    case atStart => exact ⟨0, by omega, by rw [show (⟨Array.replicate 0 0⟩ : ByteArray) = ⟨#[]⟩ from rfl, app_empty]⟩
    case round =>
      obtain ⟨k, hk', rfl⟩ := hrel
      have hz : (x ++ ⟨Array.replicate k 0⟩ : ByteArray).size = x.size + k := by
        rw [ByteArray.size_append, repB_size]
      have HZ := Lib.hid hz
      have HS : Hid ((x ++ ⟨Array.replicate k 0⟩ : ByteArray) ++ ⟨#[0]⟩ = x ++ ⟨Array.replicate (k + 1) 0⟩) := by
        show _ = _
        rw [app_assoc]
        congr 1
        apply bytes_ext
        simp [List.replicate_succ']
      have hz2 : (x ++ ⟨Array.replicate k 0⟩ : ByteArray).size ≤ 64 := by omega
      by_cases hlt : k < 64 - x.size
      · have hz1 : (x ++ ⟨Array.replicate k 0⟩ : ByteArray).size < 64 := by omega
        generalize hu : (x ++ ⟨Array.replicate k 0⟩ : ByteArray) = u at *
        have HU := Lib.hid hu
        clear hu hz
        go_wp2_with fail
        go_round
        case rel => exact ⟨k + 1, by omega, by rw [HS.out]⟩
        case measure =>
          have h1 := oneB_size 0 u
          show 64 - (u ++ ⟨#[0]⟩ : ByteArray).size < 64 - u.size
          omega
      · have hz1 : ¬ (x ++ ⟨Array.replicate k 0⟩ : ByteArray).size < 64 := by omega
        obtain rfl : k = 64 - x.size := by omega
        clear hz HZ HS hz2
        rw [← HK.out]
        have hz3 : ¬ (macKey key).size < 64 := by rw [HK.out]; exact hz1
        generalize macKey key = y at *
        have hy : y.size ≤ 64 := by have := HZ4.out; omega
        clear hz1
        go_wp2_with fail
        refine (refTurned y 92 _ (by omega)).mono ?_
        rintro e w2 ⟨rfl, hb2⟩
        go_wp2_with fail
        refine (refTurned y 54 _ (by omega)).mono ?_
        rintro e w3 ⟨rfl, hb3⟩
        have s1 : (turnB y 54).size ≤ 64 := by have := HZ3.out; omega
        have s2 : (turnB y 92).size ≤ 64 := by have := HZ2.out; omega
        have s3 : (turnB y 54 ++ all : ByteArray).size ≤ 1099511691 := by rw [ByteArray.size_append]; omega
        go_wp2_with fail
        refine (refShaOf (turnB y 54 ++ all) _ (by omega)).mono ?_
        rintro e w4 ⟨rfl, hb4⟩
        have s4 : (shaOf (turnB y 54 ++ all)).size ≤ 32 := by have := HZ1.out; omega
        have s5 : (turnB y 92 ++ shaOf (turnB y 54 ++ all) : ByteArray).size ≤ 96 := by rw [ByteArray.size_append]; omega
        go_wp2_with fail
        refine (refShaOf (turnB y 92 ++ shaOf (turnB y 54 ++ all)) _ (by omega)).mono ?_
        rintro e w5 ⟨rfl, hb5⟩
        go_wp2_with fail
        go_ret
        exact ⟨ret_str (by rw [HM.out]), bnext (bnext (bnext (bnext hb1 hb2) hb3) hb4) hb5⟩

/-- The keys of two texts: of one's own, or none. -/
theorem ref26Tag (a b text : ByteArray) (w : World) (hk : KeyPair a b) (ht : text.size ≤ 1099511627) :
    Calls Tryz.prog 30 #[.string a, .string b, .string text] w fun e w' => e = .returned (.string (tagOf a b text)) ∧ Below w.heap.size w w' := by
  rcases hk with ⟨h1, h2⟩ | ⟨rfl, rfl⟩
  · have HT : Hid (tagOf a b text = macOf (a ++ b) text) := Lib.hid (by rw [tagOf, if_neg (by omega)])
    have e1 : a.toList.isEmpty = false := by
      rw [ByteArray.toList_eq]
      have : a.data.toList.length = 8 := h1
      cases h : a.data.toList <;> simp_all
    have hz : (a ++ b).size ≤ 16 := by rw [ByteArray.size_append]; omega
    have h1' : a.size ≤ 8 := by omega
    have h2' : b.size ≤ 8 := by omega
    clear h1 h2
    go_enter Tryz.func30, Tryz.ntmps30
    go_wp2_with fail
    refine (refMacOf (a ++ b) text _ (by omega) ht).mono ?_
    rintro e w2 ⟨rfl, hb2⟩
    rw [← HT.out]
    go_wp2_with fail
    go_ret
    exact ⟨rfl, hb2⟩
  · go_enter Tryz.func30, Tryz.ntmps30
    go_wp2_with fail
    go_ret
    exact ⟨rfl, Below.refl _ _⟩
end Go.Proofs.YtjboillkhhefaaaGreatDoor
