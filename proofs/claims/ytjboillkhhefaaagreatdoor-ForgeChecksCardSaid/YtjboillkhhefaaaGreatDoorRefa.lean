/- The reference's reader (layer 1). -/
import Derived.Test.YtjboillkhhefaaaGreatDoorOct
set_option linter.unusedVariables false
namespace Go.Proofs.YtjboillkhhefaaaGreatDoor
open Go.RowKit

set_option maxHeartbeats 400000 in
theorem refBytes (b : Nat) (s : ByteArray) (p : Nat) (f n : Int) (w : World) (hs : s.size ≤ 1099511627776) (hat : p ≤ s.size) (hn : n ≤ 1099511627776)
    (hk : CutAt 163 w b s p f) :
    Calls Tryz.prog 122 #[.pointer (some ⟨b, 0, none⟩), .int .i64 n] w fun e w' =>
      e = .returned (.string (bytesS s p f n)) ∧ CutAt 163 w' b s (bytesP s p f n) (bytesF s p f n) ∧ w.grownBy w' (some b) := by
  have HK := Lib.hid hk
  obtain ⟨q0, q1, q2, z1, z2, hlt⟩ := CutAt.open hk
  clear hk
  by_cases hf : f = 0
  · subst hf
    by_cases hn0 : n < 0
    · have e0 : bytesF s p 0 n = 3 := by simp [bytesF, cutFell, hn0]
      have e1 : bytesP s p 0 n = p := by simp [bytesP, e0]
      have e2 : bytesS s p 0 n = ⟨#[]⟩ := by simp [bytesS, e0]
      rw [e0, e1, e2]
      clear e0 e1 e2
      go_enter Tryz.func122, Tryz.ntmps122
      go_wp2_with fail
      go_ret
      exact ⟨rfl, Blk.setCell HK.out 2 _, grownBy_set _ _ _ _⟩
    · obtain ⟨m, rfl⟩ : ∃ m : Nat, n = m := ⟨n.toNat, by omega⟩
      have hsub : 0 ≤ (s.size : Int) - p ∧ (s.size : Int) - p ≤ 1099511627776 := by omega
      by_cases hm : p + m ≤ s.size
      · obtain ⟨e0, e1, e2⟩ := bytes_fits hm
        rw [e0, e1, e2]
        clear e0 e1 e2
        go_enter Tryz.func122, Tryz.ntmps122
        go_wp2_with fail
        go_quiet (fail)
        go_wp2_with fail
        go_quiet (fail)
        go_wp2_with fail
        go_ret
        refine ⟨rfl, ?_, ?_⟩
        · exact Blk.setCell HK.out 1 (.int .i64 ((p : Int) + m))
        · exact grownBy_drewN (grownBy_trans (grownBy_drewN (grownBy_refl w (some b)) _) (grownBy_set _ b 1 _)) nq
      · obtain ⟨e0, e1, e2⟩ := bytes_short (s := s) (p := p) (n := m) (by omega)
        rw [e0, e1, e2]
        clear e0 e1 e2
        go_enter Tryz.func122, Tryz.ntmps122
        go_wp2_with fail
        go_quiet (fail)
        go_wp2_with fail
        go_ret
        exact ⟨rfl, (Blk.drewN HK.out _).setCell 2 _, grownBy_trans (grownBy_drewN (grownBy_refl _ _) _) (grownBy_set _ _ _ _)⟩
  · obtain ⟨e0, e1, e2⟩ := bytes_fell (s := s) (p := p) (n := n) hf
    rw [e0, e1, e2]
    clear e0 e1 e2
    have h1 : (f != 0) = true := by simpa using hf
    go_enter Tryz.func122, Tryz.ntmps122
    go_wp2_with fail
    go_ret
    exact ⟨rfl, HK.out, grownBy_refl _ _⟩

set_option maxHeartbeats 400000 in
theorem refNum (b : Nat) (s : ByteArray) (p : Nat) (f : Int) (k : Nat) (w : World) (hs : s.size ≤ 1099511627776) (hat : p ≤ s.size) (hk1 : 1 ≤ k) (hk7 : k ≤ 7)
    (hk : CutAt 163 w b s p f) :
    Calls Tryz.prog 85 #[.pointer (some ⟨b, 0, none⟩), .int .i64 k] w fun e w' =>
      e = .returned (.int .i64 (ofB (bytesS s p f k))) ∧ CutAt 163 w' b s (bytesP s p f k) (bytesF s p f k) ∧ w.grownBy w' (some b) := by
  have HK := Lib.hid hk
  obtain ⟨q0, q1, q2, z1, z2, hlt⟩ := CutAt.open hk
  clear hk
  have b1 : (1 : Int) ≤ k ∧ (k : Int) ≤ 7 := by omega
  have b2 : decide ((k : Int) < 1) = false := by simp; omega
  have b3 : decide ((7 : Int) < k) = false := by simp; omega
  have hsz : (bytesS s p f k).size ≤ 7 := by have := bytesS_size (f := f) (n := k) hat; omega
  have hlt : (ofB (bytesS s p f k) : Int) < 72057594037927936 := by
    have := Nat.lt_of_lt_of_le (ofB_lt (bytesS s p f k)) (Nat.pow_le_pow_right (by omega) hsz)
    omega
  by_cases hf : f = 0
  · subst hf
    go_enter Tryz.func85, Tryz.ntmps85
    go_wp2_with fail
    refine (refBytes b s p 0 k _ hs hat (by omega) HK.out).mono ?_
    rintro e w2 ⟨rfl, hk2, hg2⟩
    have HK2 := Lib.hid hk2
    clear hk2
    go_wp2_with fail
    refine (refOf _ _ hsz).mono ?_
    rintro e w3 ⟨rfl, rfl⟩
    go_wp2_with fail
    go_ret
    exact ⟨rfl, HK2.out, hg2⟩
  · have h1 : (f == 0) = false := by simpa using hf
    go_enter Tryz.func85, Tryz.ntmps85
    go_wp2_with fail
    refine (refBytes b s p f k _ hs hat (by omega) HK.out).mono ?_
    rintro e w2 ⟨rfl, hk2, hg2⟩
    have HK2 := Lib.hid hk2
    clear hk2
    go_wp2_with fail
    refine (refOf _ _ hsz).mono ?_
    rintro e w3 ⟨rfl, rfl⟩
    go_wp2_with fail
    go_ret
    exact ⟨rfl, HK2.out, hg2⟩

set_option maxRecDepth 100000 in
set_option maxHeartbeats 400000 in
theorem refRest (b : Nat) (s : ByteArray) (p : Nat) (f : Int) (w : World) (hs : s.size ≤ 1099511627776) (hat : p ≤ s.size)
    (hk : CutAt 163 w b s p f) :
    Calls Tryz.prog 87 #[.pointer (some ⟨b, 0, none⟩)] w fun e w' =>
      e = .returned (.string (bytesS s p f (s.size - p : Nat))) ∧ CutAt 163 w' b s (bytesP s p f (s.size - p : Nat)) (bytesF s p f (s.size - p : Nat)) ∧ w.grownBy w' (some b) := by
  have HK := Lib.hid hk
  obtain ⟨q0, q1, q2, z1, z2, hlt⟩ := CutAt.open hk
  clear hk
  have hsub : 0 ≤ (s.size : Int) - p ∧ (s.size : Int) - p ≤ 1099511627776 := by omega
  have he : ((s.size - p : Nat) : Int) = (s.size : Int) - p := by omega
  rw [he]
  clear he
  go_enter Tryz.func87, Tryz.ntmps87
  go_wp2_with fail
  go_still_tail 11, (by kernel_rfl)
  change wpList _ _ _ _ _ w.drew
  go_wp2_with fail
  refine (refBytes b s p f ((s.size : Int) - p) _ hs hat (by omega) (Blk.drew HK.out)).mono ?_
  rintro e w2 ⟨rfl, hk2, hg2⟩
  have HK2 := Lib.hid hk2
  clear hk2
  go_wp2_with fail
  go_ret
  exact ⟨rfl, HK2.out, grownBy_trans (grownBy_drew (grownBy_refl _ _)) hg2⟩

set_option maxHeartbeats 400000 in
theorem refDone (b : Nat) (s : ByteArray) (p : Nat) (f : Int) (w : World) (hs : s.size ≤ 1099511627776) (hat : p ≤ s.size)
    (hk : CutAt 163 w b s p f) :
    Calls Tryz.prog 123 #[.pointer (some ⟨b, 0, none⟩)] w fun e w' =>
      e = .returned (.int .i64 (if f = 0 ∧ p < s.size then 2 else f)) ∧ ∃ n, w' = w.drewN n := by
  have HK := Lib.hid hk
  obtain ⟨q0, q1, q2, z1, z2, hlt⟩ := CutAt.open hk
  clear hk
  by_cases hf : f = 0
  · subst hf
    by_cases hp : p < s.size
    all_goals
      go_enter Tryz.func123, Tryz.ntmps123
      go_wp2_with fail
      go_quiet (fail)
      go_wp2_with fail
      all_goals (go_ret; exact ⟨rfl, _, rfl⟩)
  · have h1 : (f == 0) = false := by simpa using hf
    go_enter Tryz.func123, Tryz.ntmps123
    go_wp2_with fail
    go_quiet (fail)
    go_wp2_with fail
    go_ret
    exact ⟨rfl, _, rfl⟩

end Go.Proofs.YtjboillkhhefaaaGreatDoor
