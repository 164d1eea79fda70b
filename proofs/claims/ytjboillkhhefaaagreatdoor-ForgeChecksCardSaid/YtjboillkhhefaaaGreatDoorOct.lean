/- The program's package octets, and the reference's: what each function does. -/
import Derived.Test.YtjboillkhhefaaaGreatDoorKit
import Derived.Test.YtjboillkhhefaaaGreatDoorSpec
set_option linter.unusedVariables false
namespace Go.Proofs.YtjboillkhhefaaaGreatDoor
open Go.RowKit

theorem info_u8 : (Tryz.prog.info? 5).map (fun i => (i.zero, i.size, i.bytes)) = some (some (.int .u8 0), 1, 1) := by kernel_rfl

theorem byte_at (n : Int) (k : Nat) : IntKind.u64.wrap n / 2 ^ (8 * k) % 256 = ((UInt8.ofNat (u64 n / 256 ^ k % 256)).toNat : Int) := by
  rw [wrap_u64]
  have : u64 n / 256 ^ k % 256 < 256 := Nat.mod_lt _ (by omega)
  have e : (UInt8.ofNat (u64 n / 256 ^ k % 256)).toNat = u64 n / 256 ^ k % 256 := by rw [UInt8.toNat_ofNat']; exact Nat.mod_eq_of_lt this
  rw [e]
  generalize u64 n = m
  rw [Int.pow_mul, show (2 : Int) ^ 8 = ((256 : Nat) : Int) from rfl, ← Int.natCast_pow, ← Int.natCast_ediv]
  rfl

theorem put_step (s : ByteArray) (n size k : Nat) (h : k + 1 ≤ size) :
    (s.data.toList ++ be (size - (k + 1)) (n / 256 ^ (k + 1))) ++ [UInt8.ofNat (n / 256 ^ k % 256)] = s.data.toList ++ be (size - k) (n / 256 ^ k) := by
  rw [show size - k = (size - (k + 1)) + 1 from by omega, be, List.append_assoc, Nat.div_div_eq_div_mul, Nat.pow_succ]

set_option maxRecDepth 100000 in
set_option maxHeartbeats 400000 in
theorem octPut (s : ByteArray) (n : Int) (size : Nat) (w : World) (hs : s.size ≤ 1099511627776) (hsz : size ≤ 8) :
    Calls Tryz.prog 52 #[.string s, .int .i64 n, .int .i64 size] w fun e w' => e = .returned (.string (s ++ beB size (u64 n))) ∧ Below w.heap.size w w' := by
  obtain ⟨ii, hi, hz0, hz1, hz2⟩ := info_parts info_u8
  have hsz' : (size : Int) ≤ 8 := by omega
  go_enter Tryz.func52, Tryz.ntmps52
  go_wp2_with (first | (refine wpList_toBytes rfl 9 60 _ rfl 5 s w.heap.size rfl (Nat.le_refl _) Tryz.underlying9 Tryz.underlying60 Tryz.underlying5 (by unfold maxLen; omega) ?_; intro v w1 hrow hb))
  go_loopw [7, 8] (fun b i wr => ∃ k : Nat, k ≤ size ∧ i = .int .i64 ((k : Int) - 1) ∧ ByteRow 5 w.heap.size wr b (s.data.toList ++ be (size - k) (u64 n / 256 ^ k)) ∧ Below w.heap.size w wr) (fun _ i _ => (intOf i + 1).toNat)
  case atStart => exact ⟨size, Nat.le_refl _, rfl, by simpa [be] using hrow, hb⟩
  case round =>
    obtain ⟨k, hk, rfl, hrow', hb'⟩ := hrel
    have hB := hb'.size
    have hlen : (s.data.toList ++ be (size - k) (u64 n / 256 ^ k)).length + 1 ≤ 140737488355328 := by
      have e : s.data.toList.length = s.size := rfl
      rw [List.length_append, be_length, e]; omega
    cases k with
    | zero =>
      go_wp2_with (first | (refine wpList_toString rfl 60 9 _ rfl 5 w.heap.size u7 _ rfl hrow' Tryz.underlying60 Tryz.underlying5 Tryz.underlying9 ?_))
      go_ret
      refine ⟨?_, hb'⟩
      rw [beB, ← mk_append]; simp
    | succ k =>
      rw [show (((k + 1 : Nat) : Int) - 1) = (k : Int) from by omega]
      have HS := Lib.hid (put_step s (u64 n) size k hk)
      have HB := Lib.hid (byte_at n k)
      go_wp2_with (first | (at_builtin; refine wpList_append_byte rfl _ _ 60 rfl 5 ii Tryz.underlying60 hi hz0 hz1 hz2 w.heap.size u7 _ rfl (hrow'.alloc _) ?c0 _ _ (UInt8.ofNat (u64 n / 256 ^ k % 256)) rfl ?c1 hlen ?_; rotate_left 2; intro b' w2 hrow2 hb2))
      case c0 => simp; omega
      case c1 => rw [HB.out]; simp
      go_roundw
      case rel => exact ⟨k, by omega, by go_num, HS.out ▸ hrow2, (hb'.alloc hB _).trans hb2⟩
      case measure => simp [intOf]
theorem of_step (s : ByteArray) (k : Nat) (h : s.size ≤ 7) (hk : k < s.size) :
    bits BinOp.or IntKind.u64 (IntKind.u64.wrap ((ofL (s.data.toList.take k) : Int) * 256)) (IntKind.u64.wrap s[k].toNat) = (ofL (s.data.toList.take (k + 1)) : Int) := by
  have h1 := ofL_take_lt8 s k h hk
  have h2 := s[k].toNat_lt
  rw [ofL_take s k hk, ← or_byte _ _ h2, wrap_u64, wrap_u64]
  rw [show ((ofL (s.data.toList.take k) : Int) * 256) = ((ofL (s.data.toList.take k) * 256 : Nat) : Int) from by simp, u64_cast _ (by omega), u64_cast _ (by omega)]
  exact u64_or_nat _ _ (by omega) (by omega)

set_option maxRecDepth 100000 in
set_option maxHeartbeats 400000 in
theorem octOf (s : ByteArray) (w : World) (hs : s.size ≤ 7) :
    Calls Tryz.prog 139 #[.string s] w fun e w' => e = .returned (.int .i64 (ofB s)) ∧ w = w' := by
  go_enter Tryz.func139, Tryz.ntmps139
  go_wp2_with fail
  go_loop [3, 7] (fun a b => ∃ (k : Nat), k ≤ s.size ∧ a = .int .u64 (ofL (s.data.toList.take k)) ∧ b = .int .i64 k) (fun _ b => s.size - (intOf b).toNat)
  case atStart => exact ⟨0, Nat.zero_le _, rfl, rfl⟩
  case round =>
    obtain ⟨k, hk, rfl, rfl⟩ := hrel
    by_cases hlt : k < s.size
    · have HS := Lib.hid (of_step s k hs hlt)
      go_wp2_with fail
      go_round
      case rel => exact ⟨k + 1, by omega, by rw [HS.out], by go_num⟩
      case measure => simp [intOf]; omega
    · have hn := ofL_take_lt s k hs
      go_wp2_with fail
      go_ret
      exact ⟨ret_int (by rw [take_all s k (by omega)]; rfl), rfl⟩

theorem refof_step (s : ByteArray) (k : Nat) (h : s.size ≤ 7) (hk : k < s.size) :
    IntKind.u64.wrap (IntKind.u64.wrap (256 * (ofL (s.data.toList.take k) : Int)) + IntKind.u64.wrap s[k].toNat) = (ofL (s.data.toList.take (k + 1)) : Int) := by
  have h1 := ofL_take_lt8 s k h hk
  have h2 := s[k].toNat_lt
  rw [ofL_take s k hk]
  simp only [IntKind.wrap, IntKind.bits, IntKind.signed]
  simp
  omega

set_option maxRecDepth 100000 in
set_option maxHeartbeats 400000 in
theorem refOf (s : ByteArray) (w : World) (hs : s.size ≤ 7) :
    Calls Tryz.prog 97 #[.string s] w fun e w' => e = .returned (.int .u64 (ofB s)) ∧ w = w' := by
  go_enter Tryz.func97, Tryz.ntmps97
  go_wp2_with fail
  go_loop [3, 4] (fun a b => ∃ (k : Nat), k ≤ s.size ∧ a = .int .u64 (ofL (s.data.toList.take k)) ∧ b = .int .i64 k) (fun _ b => s.size - (intOf b).toNat)
  case atStart => exact ⟨0, Nat.zero_le _, rfl, rfl⟩
  case round =>
    obtain ⟨k, hk, rfl, rfl⟩ := hrel
    by_cases hlt : k < s.size
    · have HS := Lib.hid (refof_step s k hs hlt)
      go_wp2_with fail
      go_round
      case rel => exact ⟨k + 1, by omega, by rw [HS.out], by go_num⟩
      case measure => simp [intOf]; omega
    · go_wp2_with fail
      go_ret
      exact ⟨ret_int (by rw [take_all s k (by omega)]; rfl), rfl⟩

theorem refput_step (n k : Nat) : (⟨#[UInt8.ofNat (n / 256 ^ k % 256)]⟩ : ByteArray) ++ beB k n = beB (k + 1) n := by
  apply bytes_ext; simp [beB, be_cons]

set_option maxRecDepth 100000 in
set_option maxHeartbeats 400000 in
theorem refPut (s : ByteArray) (n : Nat) (size : Nat) (w : World) (hs : s.size ≤ 1099511627776) (hsz : size ≤ 8) (hn : n < 18446744073709551616) :
    Calls Tryz.prog 126 #[.string s, .int .u64 n, .int .i64 size] w fun e w' => e = .returned (.string (s ++ beB size n)) ∧ Below w.heap.size w w' := by
  have hsz' : (size : Int) ≤ 8 := by omega
  have HN := Lib.hid hn
  clear hn
  go_enter Tryz.func126, Tryz.ntmps126
  go_wp2_with fail
  go_loopw [1, 7, 8] (fun a b c wr => ∃ (k : Nat), k ≤ size ∧ a = .int .u64 (n / 256 ^ k : Nat) ∧ b = .string (beB k n) ∧ c = .int .i64 k ∧ Below w.heap.size w wr) (fun _ _ c _ => size - (intOf c).toNat)
  case atStart => exact ⟨0, Nat.zero_le _, by simp, rfl, rfl, Below.refl _ _⟩
  case round =>
    obtain ⟨k, hk, rfl, rfl, rfl, hb⟩ := hrel
    have hbs := beB_size k n
    have hB := hb.size
    by_cases hlt : k < size
    · have hk8 : (k : Int) < 8 := by omega
      have HS := Lib.hid (refput_step n k)
      have HD := Lib.hid (Nat.div_div_eq_div_mul n (256 ^ k) 256)
      have HL := Lib.hid hbs
      clear hbs
      generalize HM : n / 256 ^ k = m at *
      have hm0 : 0 ≤ (m : Int) % 256 ∧ (m : Int) % 256 < 256 := by omega
      have hsum : ¬ 9223372036854775807 < 1 + (beB k n).size := by rw [HL.out]; omega
      have HM' := Lib.hid HM
      clear HM
      go_wp2_with (first | (refine wpList_toString1 rfl 60 9 _ rfl 5 _ _ ((m : Int) % 256) rfl ?c1 Tryz.underlying60 Tryz.underlying5 Tryz.underlying9 ?_; rotate_left))
      case c1 => simp
      go_roundw
      case rel =>
        refine ⟨k + 1, by omega, ?_, by rw [HS.out], by go_num, hb.alloc hB _⟩
        rw [Nat.pow_succ, ← HD.out, wrap_u64]
        rw [show (m : Int) / 256 = ((m / 256 : Nat) : Int) from by simp, u64_cast]
        have h1 : m < 18446744073709551616 := by rw [← HM'.out]; exact Nat.lt_of_le_of_lt (Nat.div_le_self _ _) HN.out
        omega
      case measure => simp [intOf]; omega
    · go_wp2_with fail
      go_ret
      exact ⟨ret_str (by rw [show k = size from by omega]), hb⟩

/-! ### The reader -/

set_option maxHeartbeats 400000 in
theorem octNew (s : ByteArray) (w : World) :
    Calls Tryz.prog 76 #[.string s] w fun e w' => e = .returned (.pointer (some ⟨w.heap.size, 0, none⟩)) ∧ w' = w.alloc (.cells #[.string s, .int .i64 0, .int .i64 0] 224) := by
  go_enter Tryz.func76, Tryz.ntmps76
  go_wp2
  go_ret
  exact ⟨rfl, rfl⟩

set_option maxHeartbeats 400000 in
theorem cutTake (b : Nat) (s : ByteArray) (at_ : Nat) (fell n : Int) (wrong : Bool) (w : World) (hs : s.size ≤ 1099511627776) (hat : at_ ≤ s.size)
    (hk : Blk w b #[.string s, .int .i64 at_, .int .i64 fell] 224) :
    Calls Tryz.prog 138 #[.pointer (some ⟨b, 0, none⟩), .int .i64 n, .bool wrong] w fun e w' =>
      e = .returned (.bool (decide (cutFell (s.size - at_) fell n wrong = 0))) ∧ Blk w' b #[.string s, .int .i64 at_, .int .i64 (cutFell (s.size - at_) fell n wrong)] 224 ∧ w.grownBy w' (some b) := by
  have hc0 := hk.cell 0
  have hc1 := hk.cell 1
  have hc2 := hk.cell 2
  have hf := hk.frozen 2
  simp at hc0 hc1 hc2
  have HK := Lib.hid hk
  clear hk
  have hsub : 0 ≤ (s.size : Int) - at_ ∧ (s.size : Int) - at_ ≤ 1099511627776 := by omega
  by_cases hfell : fell = 0
  · subst hfell
    cases wrong with
    | true =>
      go_enter Tryz.func138, Tryz.ntmps138
      go_wp2
      go_ret
      exact ⟨rfl, HK.out.setCell 2 _, grownBy_set _ _ _ _⟩
    | false =>
      by_cases hn : (s.size : Int) - at_ < n
      all_goals
        have HN := Lib.hid hn
        go_enter Tryz.func138, Tryz.ntmps138
        go_wp2
        go_quiet (fail)
        go_wp2
        go_ret
      · exact ⟨ret_bool (by simp [cutFell, HN.out]), by rw [show cutFell (s.size - at_) 0 n false = 1 from by simp [cutFell, HN.out]]; exact (HK.out.drewN _).setCell 2 _, grownBy_trans (grownBy_drewN (grownBy_refl _ _) _) (grownBy_set _ _ _ _)⟩
      · exact ⟨ret_bool (by simp [cutFell, HN.out]), by rw [show cutFell (s.size - at_) 0 n false = 0 from by simp [cutFell, HN.out]]; exact HK.out.drewN _, grownBy_drewN (grownBy_refl _ _) _⟩
  · have hfe : (fell == 0) = false := by simpa using hfell
    have hfe' : (fell != 0) = true := by simpa using hfell
    go_enter Tryz.func138, Tryz.ntmps138
    go_wp2
    go_ret
    have e : cutFell (s.size - at_) fell n wrong = fell := by simp [cutFell, hfell]
    exact ⟨ret_bool (by rw [e]; simpa using hfell), by rw [e]; exact HK.out, grownBy_refl _ _⟩

/-- A reader in memory: its bytes, place and fault. -/
def CutAt (T : TypeId) (w : World) (b : Nat) (s : ByteArray) (p : Nat) (f : Int) : Prop := Blk w b #[.string s, .int .i64 p, .int .i64 f] T
theorem CutAt.open {T w b s p f} (h : CutAt T w b s p f) : w.cell? ⟨b, 0, none⟩ = some (.string s) ∧ w.cell? ⟨b, 1, none⟩ = some (.int .i64 p) ∧ w.cell? ⟨b, 2, none⟩ = some (.int .i64 f) ∧
    w.frozen? ⟨b, 1, none⟩ = false ∧ w.frozen? ⟨b, 2, none⟩ = false ∧ b < w.heap.size :=
  ⟨Blk.cell h 0, Blk.cell h 1, Blk.cell h 2, Blk.frozen h 1, Blk.frozen h 2, Blk.lt h⟩

set_option maxHeartbeats 400000 in
theorem cutBytes (b : Nat) (s : ByteArray) (p : Nat) (f n : Int) (w : World) (hs : s.size ≤ 1099511627776) (hat : p ≤ s.size) (hn : n ≤ 1099511627776)
    (hk : CutAt 224 w b s p f) :
    Calls Tryz.prog 94 #[.pointer (some ⟨b, 0, none⟩), .int .i64 n] w fun e w' =>
      e = .returned (.string (bytesS s p f n)) ∧ CutAt 224 w' b s (bytesP s p f n) (bytesF s p f n) ∧ w.grownBy w' (some b) := by
  have HK := Lib.hid hk
  have HE : Hid (bytesF s p f n = cutFell (s.size - p) f n (decide (n < 0))) := rfl
  clear hk
  by_cases hF : cutFell (s.size - p) f n (decide (n < 0)) = 0
  all_goals
    go_enter Tryz.func94, Tryz.ntmps94
    go_wp2_with fail
    refine (cutTake b s p f n (decide (n < 0)) _ hs hat HK.out).mono ?_
    rintro e w1 ⟨rfl, hk1, hg1⟩
    obtain ⟨q0, q1, q2, z1, z2, hlt⟩ := CutAt.open hk1
    have HK1 := Lib.hid hk1
    clear hk1
  · have hb := Lib.hid (bytesF_ok (s := s) (p := p) (f := f) (n := n) hF)
    have h0 : 0 ≤ n ∧ (p : Int) + n ≤ s.size := by rcases hb.out with h | h <;> omega
    have HF := Lib.hid hF
    obtain ⟨m, rfl⟩ : ∃ m : Nat, n = m := ⟨n.toNat, by omega⟩
    go_wp2_with fail
    go_quiet (fail)
    go_wp2_with fail
    go_ret
    have e1 : bytesF s p f m = 0 := by rw [HE.out]; exact HF.out
    refine ⟨by simp [bytesS, e1], ?_, grownBy_drewN (grownBy_trans hg1 (grownBy_set _ _ _ _)) _⟩
    have e2 : bytesP s p f m = p + m := by simp [bytesP, e1]
    have h1 := (HK1.out.setCell 1 (.int .i64 ((p : Int) + m))).drewN nq
    rw [HF.out] at h1
    unfold CutAt
    rw [e1, e2]
    exact h1
  · go_wp2_with fail
    go_ret
    have e1 : bytesF s p f n ≠ 0 := by rw [HE.out]; exact hF
    exact ⟨by simp [bytesS, e1], by rw [show bytesP s p f n = p from by simp [bytesP, e1], HE.out]; exact HK1.out, hg1⟩


set_option maxHeartbeats 400000 in
theorem cutNum (b : Nat) (s : ByteArray) (p : Nat) (f : Int) (k : Nat) (w : World) (hs : s.size ≤ 1099511627776) (hat : p ≤ s.size) (hk1 : 1 ≤ k) (hk7 : k ≤ 7)
    (hk : CutAt 224 w b s p f) :
    Calls Tryz.prog 93 #[.pointer (some ⟨b, 0, none⟩), .int .i64 k] w fun e w' =>
      e = .returned (.int .i64 (ofB (bytesS s p f k))) ∧ CutAt 224 w' b s (bytesP s p f k) (bytesF s p f k) ∧ w.grownBy w' (some b) := by
  have HK := Lib.hid hk
  clear hk
  have HE : Hid (bytesF s p f k = cutFell (s.size - p) f k false) := by unfold bytesF; congr 1
  have b1 : (1 : Int) ≤ k ∧ (k : Int) ≤ 7 := by omega
  have b2 : decide ((k : Int) < 1) = false := by simp; omega
  have b3 : decide ((7 : Int) < k) = false := by simp; omega
  by_cases hF : cutFell (s.size - p) f k false = 0
  all_goals
    go_enter Tryz.func93, Tryz.ntmps93
    go_wp2_with fail
    refine (cutTake b s p f k false _ hs hat HK.out).mono ?_
    rintro e w1 ⟨rfl, hk1, hg1⟩
    have HK1 := Lib.hid hk1
    clear hk1
  · have HF := Lib.hid hF
    have HB := Lib.hid (bytesF_ok (s := s) (p := p) (f := f) (n := k) (by rw [HE.out]; exact hF))
    have hf0 : f = 0 := by rcases HB.out with h | h <;> exact h.1
    subst hf0
    have hfit : p + k ≤ s.size := by rcases HB.out with h | h <;> omega
    have HBF := Lib.hid (bytes_fits hfit)
    go_wp2_with fail
    rw [HF.out] at HK1
    refine (cutBytes b s p 0 k _ hs hat (by omega) HK1.out).mono ?_
    rintro e w2 ⟨rfl, hk2, hg2⟩
    have HK2 := Lib.hid hk2
    clear hk2
    have hsz : (bytesS s p 0 k).size ≤ 7 := by have := bytesS_size (f := 0) (n := k) hat; omega
    go_wp2_with fail
    refine (octOf _ _ hsz).mono ?_
    rintro e w3 ⟨rfl, rfl⟩
    go_wp2_with fail
    go_ret
    exact ⟨rfl, HK2.out, grownBy_trans hg1 hg2⟩
  · go_wp2_with fail
    go_ret
    have e1 : bytesF s p f k ≠ 0 := by rw [HE.out]; exact hF
    have e2 : bytesP s p f k = p := by simp [bytesP, e1]
    refine ⟨by simp [bytesS, e1]; rfl, ?_, hg1⟩
    rw [e2, HE.out]
    exact HK1.out

set_option maxHeartbeats 400000 in
theorem cutLeft (b : Nat) (s : ByteArray) (p : Nat) (f : Int) (w : World) (hs : s.size ≤ 1099511627776) (hat : p ≤ s.size)
    (hk : CutAt 224 w b s p f) :
    Calls Tryz.prog 130 #[.pointer (some ⟨b, 0, none⟩)] w fun e w' => e = .returned (.int .i64 (s.size - p : Nat)) ∧ ∃ n, w' = w.drewN n := by
  obtain ⟨q0, q1, q2, z1, z2, hlt⟩ := CutAt.open hk
  clear hk
  have hsub : 0 ≤ (s.size : Int) - p ∧ (s.size : Int) - p ≤ 1099511627776 := by omega
  go_enter Tryz.func130, Tryz.ntmps130
  go_wp2_with fail
  go_quiet (fail)
  go_wp2_with fail
  go_ret
  exact ⟨ret_int (by omega), ⟨_, rfl⟩⟩

set_option maxHeartbeats 400000 in
theorem cutRest (b : Nat) (s : ByteArray) (p : Nat) (f : Int) (w : World) (hs : s.size ≤ 1099511627776) (hat : p ≤ s.size)
    (hk : CutAt 224 w b s p f) :
    Calls Tryz.prog 80 #[.pointer (some ⟨b, 0, none⟩)] w fun e w' =>
      e = .returned (.string (bytesS s p f (s.size - p : Nat))) ∧ CutAt 224 w' b s (bytesP s p f (s.size - p : Nat)) (bytesF s p f (s.size - p : Nat)) ∧ w.grownBy w' (some b) := by
  have HK := Lib.hid hk
  clear hk
  go_enter Tryz.func80, Tryz.ntmps80
  go_wp2_with fail
  refine (cutLeft b s p f _ hs hat HK.out).mono ?_
  rintro e w1 ⟨rfl, n, rfl⟩
  go_wp2_with fail
  refine (cutBytes b s p f (s.size - p : Nat) _ hs hat (by omega) (HK.out.drewN n)).mono ?_
  rintro e w2 ⟨rfl, hk2, hg2⟩
  have HK2 := Lib.hid hk2
  clear hk2
  go_wp2_with fail
  go_ret
  exact ⟨rfl, HK2.out, grownBy_trans (grownBy_drewN (grownBy_refl _ _) n) hg2⟩

set_option maxHeartbeats 400000 in
theorem cutDone (b : Nat) (s : ByteArray) (p : Nat) (f : Int) (w : World) (hs : s.size ≤ 1099511627776) (hat : p ≤ s.size)
    (hk : CutAt 224 w b s p f) :
    Calls Tryz.prog 95 #[.pointer (some ⟨b, 0, none⟩)] w fun e w' =>
      e = .returned (.int .i64 (if f = 0 ∧ p < s.size then 2 else f)) ∧ ∃ n, w' = w.drewN n := by
  have HK := Lib.hid hk
  obtain ⟨q0, q1, q2, z1, z2, hlt⟩ := CutAt.open hk
  clear hk
  by_cases hf : f = 0
  · subst hf
    by_cases hp : p < s.size
    · have hq : decide (0 < s.size - p) = true := by simp; omega
      go_enter Tryz.func95, Tryz.ntmps95
      go_wp2_with fail
      refine (cutLeft b s p 0 _ hs hat HK.out).mono ?_
      rintro e w1 ⟨rfl, n, rfl⟩
      go_wp2_with fail
      all_goals (go_ret; exact ⟨rfl, ⟨_, rfl⟩⟩)
    · have hq : decide (0 < s.size - p) = false := by simp; omega
      go_enter Tryz.func95, Tryz.ntmps95
      go_wp2_with fail
      refine (cutLeft b s p 0 _ hs hat HK.out).mono ?_
      rintro e w1 ⟨rfl, n, rfl⟩
      go_wp2_with fail
      go_ret
      exact ⟨rfl, ⟨_, rfl⟩⟩
  · have h1 : (f == 0) = false := by simpa using hf
    go_enter Tryz.func95, Tryz.ntmps95
    go_wp2_with fail
    go_ret
    exact ⟨rfl, ⟨0, rfl⟩⟩

end Go.Proofs.YtjboillkhhefaaaGreatDoor
