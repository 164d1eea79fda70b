/- The program's package keys. -/
import Derived.Test.YtjboillkhhefaaaGreatDoorMacb
set_option linter.unusedVariables false
namespace Go.Proofs.YtjboillkhhefaaaGreatDoor
open Go.RowKit

/-- Keys: both of 8 bytes, or none. -/
def KeyPair (a b : ByteArray) : Prop := (a.size = 8 ∧ b.size = 8) ∨ (a = ⟨#[]⟩ ∧ b = ⟨#[]⟩)
def tagOf (a b text : ByteArray) : ByteArray := if a.size = 0 then ⟨#[]⟩ else macOf (a ++ b) text

theorem toList_len (a : ByteArray) : a.toList.length = a.size := by rw [ByteArray.toList_eq]; rfl

set_option maxHeartbeats 400000 in
theorem keysNew_ok (a b : ByteArray) (w : World) (h1 : a.size = 8) (h2 : b.size = 8) :
    Calls Tryz.prog 23 #[.string a, .string b] w fun e w' => e = .returned (.tuple #[.agg #[.string a, .string b], .int .i64 0]) ∧ Below w.heap.size w w' := by
  have e1 : ((a.size : Int) != 8) = false := by rw [h1]; rfl
  have e2 : ((b.size : Int) != 8) = false := by rw [h2]; rfl
  clear h1 h2
  go_enter Tryz.func23, Tryz.ntmps23
  go_wp2
  exact bodyPost_ret (v := .tuple #[.agg #[.string a, .string b], .int .i64 0]) (by simp [results, Tryz.results23, go_sem]) rfl ⟨rfl, (Below.refl _ _).alloc (Nat.le_refl _) _⟩

set_option maxHeartbeats 400000 in
theorem keysNew_no (a b : ByteArray) (w : World) (h : ¬ (a.size = 8 ∧ b.size = 8)) :
    Calls Tryz.prog 23 #[.string a, .string b] w fun e w' => e = .returned (.tuple #[.agg #[.string ⟨#[]⟩, .string ⟨#[]⟩], .int .i64 11]) ∧ Below w.heap.size w w' := by
  by_cases h1 : a.size = 8
  · have e1 : ((a.size : Int) != 8) = false := by rw [h1]; rfl
    have e2 : ((b.size : Int) != 8) = true := by rw [bne_iff_ne]; omega
    clear h1 h
    go_enter Tryz.func23, Tryz.ntmps23
    go_wp2
    exact bodyPost_ret (v := .tuple #[.agg #[.string ⟨#[]⟩, .string ⟨#[]⟩], .int .i64 11]) (by simp [results, Tryz.results23, go_sem]) rfl ⟨rfl, (Below.refl _ _).alloc (Nat.le_refl _) _⟩
  · have e1 : ((a.size : Int) != 8) = true := by rw [bne_iff_ne]; omega
    clear h1 h
    go_enter Tryz.func23, Tryz.ntmps23
    go_wp2
    exact bodyPost_ret (v := .tuple #[.agg #[.string ⟨#[]⟩, .string ⟨#[]⟩], .int .i64 11]) (by simp [results, Tryz.results23, go_sem]) rfl ⟨rfl, (Below.refl _ _).alloc (Nat.le_refl _) _⟩

set_option maxHeartbeats 400000 in
theorem keysKnown_yes (a b : ByteArray) (w : World) (h1 : a.size = 8) :
    Calls Tryz.prog 35 #[.agg #[.string a, .string b]] w fun e w' => e = .returned (.bool true) ∧ Below w.heap.size w w' := by
  have e3 : ¬ a.toList = [] := by intro h; have := toList_len a; rw [h] at this; simp at this; omega
  clear h1
  go_enter Tryz.func35, Tryz.ntmps35
  go_wp2
  go_ret
  exact ⟨rfl, (Below.refl _ _).alloc (Nat.le_refl _) _⟩

set_option maxHeartbeats 400000 in
theorem keysKnown_no (w : World) :
    Calls Tryz.prog 35 #[.agg #[.string ⟨#[]⟩, .string ⟨#[]⟩]] w fun e w' => e = .returned (.bool false) ∧ Below w.heap.size w w' := by
  go_enter Tryz.func35, Tryz.ntmps35
  go_wp2
  go_ret
  exact ⟨rfl, (Below.refl _ _).alloc (Nat.le_refl _) _⟩

def tagText (k side : Int) (l : List ByteArray) : ByteArray := beB 1 (u64 k) ++ beB 1 (u64 side) ++ joinB l

set_option maxRecDepth 100000 in
set_option maxHeartbeats 1000000 in
theorem keysTag_no (k side : Int) (v : Value) (w : World) :
    Calls Tryz.prog 51 #[.agg #[.string ⟨#[]⟩, .string ⟨#[]⟩], .int .i64 k, .int .i64 side, v] w fun e w' => e = .returned (.string ⟨#[]⟩) ∧ Below w.heap.size w w' := by
  go_enter Tryz.func51, Tryz.ntmps51
  go_wp2_with fail
  refine (keysKnown_no _).mono ?_
  rintro e w1 ⟨rfl, hb1⟩
  go_wp2_with fail
  go_ret
  exact ⟨rfl, ((Below.refl _ _).alloc (Nat.le_refl _) _).trans (hb1.mono (by simp))⟩

set_option maxRecDepth 100000 in
set_option maxHeartbeats 1000000 in
theorem keysTag (a b : ByteArray) (k side : Int) (pb c : Nat) (l : List ByteArray) (w : World) (h1 : a.size = 8) (h2 : b.size = 8) (hl : (joinB l).size ≤ 1099511600) (hn : l.length ≤ 9) (hp : PartsAt w pb l) :
    Calls Tryz.prog 51 #[.agg #[.string a, .string b], .int .i64 k, .int .i64 side, .slice (some ⟨pb, 0, none⟩) l.length c] w fun e w' => e = .returned (.string (macOf (a ++ b) (tagText k side l))) ∧ Below w.heap.size w w' := by
  have hpb := hp.1
  have HP := Lib.hid hp
  have HL := Lib.hid hl
  have H1 := Lib.hid h1
  have hn' : (l.length : Int) ≤ 9 := by omega
  have hab : (a ++ b).size = 16 := by rw [ByteArray.size_append]; omega
  have hab2 : ¬ 9223372036854775807 < a.size + b.size := by omega
  have HAB := Lib.hid hab
  have HT : Hid (tagText k side l = beB 1 (u64 k) ++ beB 1 (u64 side) ++ joinB l) := rfl
  clear hp hl h1 h2 hab
  go_enter Tryz.func51, Tryz.ntmps51
  go_wp2_with fail
  refine (keysKnown_yes a b _ H1.out).mono ?_
  rintro e w1 ⟨rfl, hb1⟩
  have B1 := Lib.hid (Blk.below (Blk.new w _ _) hb1 (by simp))
  have HB1 : Hid (Below w.heap.size w w1) := Lib.hid (((Below.refl _ _).alloc (Nat.le_refl _) _).trans (hb1.mono (by simp)))
  clear hb1
  go_wp2_with fail
  refine (octPut ⟨#[]⟩ k 1 _ (by show 0 ≤ _; omega) (by omega)).mono ?_
  rintro e w2 ⟨rfl, hb2⟩
  rw [empty_app]
  have hs1 := beB_size 1 (u64 k)
  have B2 := Lib.hid (Blk.below B1.out hb2 B1.out.lt)
  have HB2 : Hid (Below w.heap.size w w2) := Lib.hid (HB1.out.trans (hb2.mono HB1.out.size))
  clear hb2
  go_wp2_with fail
  refine (octPut _ side 1 _ (by omega) (by omega)).mono ?_
  rintro e w3 ⟨rfl, hb3⟩
  have hs2 : (beB 1 (u64 k) ++ beB 1 (u64 side)).size = 2 := by rw [ByteArray.size_append, beB_size, beB_size]
  have B3 := Lib.hid (Blk.below B2.out hb3 B2.out.lt)
  have HB3 : Hid (Below w.heap.size w w3) := Lib.hid (HB2.out.trans (hb3.mono HB2.out.size))
  have H0 : Hid (beB 1 (u64 k) ++ beB 1 (u64 side) ++ joinB (l.take 0) = beB 1 (u64 k) ++ beB 1 (u64 side)) := Lib.hid (by rw [List.take_zero]; exact app_empty _)
  have HINS : Hid (∀ k', k' ≤ l.length → (beB 1 (u64 k) ++ beB 1 (u64 side) ++ joinB (l.take k')).size ≤ 1099511602) := Lib.hid (fun k' _ => by
    have := joinB_take_le l k'
    have := HL.out
    rw [ByteArray.size_append, hs2]; omega)
  have HTP : Hid (beB 1 (u64 k) ++ beB 1 (u64 side) = beB 1 (u64 k) ++ beB 1 (u64 side)) := rfl
  clear hb3
  generalize hpre : beB 1 (u64 k) ++ beB 1 (u64 side) = pre at *
  have HPRE := Lib.hid hpre
  clear hpre hs1
  go_wp2_with fail
  go_loop [9, 21] (fun t c => ∃ k' : Nat, k' ≤ l.length ∧ t = .string (pre ++ joinB (l.take k')) ∧ c = .int .i64 k') (fun _ c => l.length - (intOf c).toNat)
  case atStart => exact ⟨0, Nat.zero_le _, by rw [H0.out], rfl⟩
  case round =>
    obtain ⟨k', hk', rfl, rfl⟩ := hrel
    have hpp := (HP.out.below HB3.out hpb)
    by_cases hlt : k' < l.length
    · have q := hpp.2 k' hlt
      have hj := HINS.out (k' + 1) hlt
      rw [joinB_take _ _ hlt, ← app_assoc, ByteArray.size_append] at hj
      have HJ := Lib.hid (joinB_take l k' hlt)
      have hcat : ¬ 9223372036854775807 < (pre ++ joinB (l.take k')).size + (l.getD k' ⟨#[]⟩).size := by omega
      generalize hs0 : l.getD k' ⟨#[]⟩ = s0 at *
      generalize hs3 : pre ++ joinB (l.take k') = t0 at *
      have HS3 := Lib.hid hs3
      clear hpp hs0 hs3 hj
      go_wp2_with fail
      go_round
      case rel => exact ⟨k' + 1, by omega, by rw [HJ.out, ← app_assoc, HS3.out], by go_num⟩
      case measure => simp [intOf]; omega
    · obtain rfl : k' = l.length := by omega
      have hsz := HINS.out l.length (Nat.le_refl _)
      rw [List.take_length] at *
      generalize hs3 : pre ++ joinB l = t0 at *
      have HS3 := Lib.hid hs3
      have q0 := B3.out.cell 0
      have q1 := B3.out.cell 1
      simp at q0 q1
      clear hpp hs3
      go_wp2_with fail
      refine (macOfC w3.heap.size _ (a ++ b) [t0] _ (by have := HAB.out; omega) (by show (_ ++ _ : ByteArray).size ≤ _; rw [empty_app]; omega) (by simp) ⟨by simp, fun i hi => by
        obtain rfl : i = 0 := by simpa using hi
        exact (Blk.new w3 _ _).cell 0⟩).mono ?_
      rintro e w4 ⟨rfl, hb4⟩
      have e1 : joinB [t0] = t0 := empty_app _
      go_wp2_with fail
      go_ret
      exact ⟨ret_str (by rw [HT.out]), (HB3.out.alloc HB3.out.size _).trans (hb4.mono (by have := HB3.out.size; simp; omega))⟩
end Go.Proofs.YtjboillkhhefaaaGreatDoor
