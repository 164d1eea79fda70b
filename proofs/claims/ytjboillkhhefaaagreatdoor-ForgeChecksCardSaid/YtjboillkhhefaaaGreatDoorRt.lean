/- What is said is read: the three options of a datagram; in plain Lean. -/
import Derived.Test.YtjboillkhhefaaaGreatDoorOpb
import Derived.Test.YtjboillkhhefaaaGreatDoorFgd
set_option linter.unusedVariables false
namespace Go.Proofs.YtjboillkhhefaaaGreatDoor
open Go.RowKit

theorem ofL_be (k n : Nat) : ofL (be k n) = n % 256 ^ k := by
  induction k generalizing n with
  | zero => simp [be, ofL]; omega
  | succ k ih =>
    rw [be, ofL_snoc, ih, UInt8.toNat_ofNat']
    have h1 : 256 ^ (k + 1) = 256 * 256 ^ k := by rw [Nat.pow_succ, Nat.mul_comm]
    rw [h1, Nat.mod_mul]
    have : n % 256 % 2 ^ 8 = n % 256 := by omega
    rw [this]
    omega
theorem ofB_beB (k n : Nat) (h : n < 256 ^ k) : ofB (beB k n) = n := by
  unfold ofB beB
  rw [ofL_be, Nat.mod_eq_of_lt h]
theorem ext_snd (a b : ByteArray) (n : Nat) (h : a.size = n) (m : Nat) (hm : m = n + b.size) : (a ++ b).extract n m = b := by
  subst hm; subst h
  apply bytes_ext
  rw [ext_toList]
  have e1 : (a ++ b).data.toList = a.data.toList ++ b.data.toList := by simp
  have e2 : a.data.toList.length = a.size := rfl
  have e3 : b.data.toList.length = b.size := rfl
  rw [e1, List.take_of_length_le (by rw [List.length_append]; omega), List.drop_left' e2]
theorem byte0_be (k : Nat) (h : k < 256) (s : ByteArray) : byte0 (beB 1 k ++ s) = k := by
  have e1 : (beB 1 k ++ s).data.toList = UInt8.ofNat (k % 256) :: s.data.toList := by simp [beB, be]
  unfold byte0
  rw [e1]
  simp
  omega
def seqM (n : Int) : MultiV := ⟨4, 0, 0, n, 0, 0, ⟨#[]⟩⟩
def rttM (n : Int) : MultiV := ⟨6, 0, 0, n, 0, 0, ⟨#[]⟩⟩
def tagM (s : ByteArray) : MultiV := ⟨5, 0, 0, 0, 0, 0, s⟩
theorem get_num (k size : Nat) (n : Nat) (hk : k < 256) (hkn : mpKnown k = true) (hz : mpSizes k = [0, 0, 0, 0, size, 0, 0]) (h0 : 0 < size) (hn : n < 256 ^ size) :
    getM ⟨46, beB 1 k ++ beB size n⟩ = (0, ⟨k, 0, 0, n, 0, 0, ⟨#[]⟩⟩) := by
  have hs : (beB 1 k ++ beB size n).size = 1 + size := by rw [ByteArray.size_append, beB_size, beB_size]
  have hf := bytes_fits (s := beB 1 k ++ beB size n) (p := 1) (n := size) (by omega)
  rw [ext_snd _ _ 1 (beB_size _ _) _ (by rw [beB_size])] at hf
  have hnz : ¬ size = 0 := by omega
  unfold getM
  rw [if_neg (by simp), if_neg (by rw [hs]; omega), byte0_be k hk, if_neg (by rw [hkn]; decide)]
  unfold getMv
  rw [hz]
  simp [mpNums, hnz, hf.1, hf.2.1, hf.2.2, ofB_beB size n hn, cutDoneE, hs]
theorem get_seq (n : Int) (h0 : 0 ≤ n) (h : n < 281474976710656) : getM (putM (seqM n) 4) = (0, seqM n) := by
  obtain ⟨m, rfl⟩ : ∃ m : Nat, n = m := ⟨n.toNat, by omega⟩
  have e : putM (seqM (m : Int)) 4 = ⟨46, beB 1 4 ++ beB 6 m⟩ := by
    show OptV.mk 46 (beB 1 (u64 4) ++ beB 6 (u64 (m : Int))) = _
    rw [u64_cast m (by omega)]
    rfl
  rw [e, get_num 4 6 m (by omega) rfl rfl (by omega) (by omega)]
  rfl
theorem get_rtt (n : Int) (h0 : 0 ≤ n) (h : n < 65536) : getM (putM (rttM n) 6) = (0, rttM n) := by
  obtain ⟨m, rfl⟩ : ∃ m : Nat, n = m := ⟨n.toNat, by omega⟩
  have e : putM (rttM (m : Int)) 6 = ⟨46, beB 1 6 ++ beB 2 m⟩ := by
    show OptV.mk 46 (beB 1 (u64 6) ++ beB 2 (u64 (m : Int))) = _
    rw [u64_cast m (by omega)]
    rfl
  rw [e, get_num 6 2 m (by omega) rfl rfl (by omega) (by omega)]
  rfl
theorem get_tag (s : ByteArray) (h : s.size = 32) : getM (putM (tagM s) 5) = (0, tagM s) := by
  have e : putM (tagM s) 5 = ⟨46, beB 1 5 ++ s⟩ := rfl
  have hs : (beB 1 5 ++ s).size = 33 := by rw [ByteArray.size_append, beB_size, h]
  have hf := bytes_fits (s := beB 1 5 ++ s) (p := 1) (n := 32) (by omega)
  rw [ext_snd _ _ 1 (beB_size _ _) _ (by rw [h])] at hf
  rw [e]
  unfold getM
  rw [if_neg (by simp), if_neg (by rw [hs]; omega), byte0_be 5 (by omega), if_neg (by decide)]
  unfold getMv
  rw [show mpSizes 5 = [0, 0, 0, 0, 0, 32, 32] from rfl]
  have hm : mpMany (beB 1 5 ++ s) [0, 0, 0, 0, 0, 32, 32] 1 = 32 := by simp [mpMany]
  have hf1 : bytesF (beB 1 5 ++ s) 1 0 32 = 0 := hf.1
  have hf2 : bytesP (beB 1 5 ++ s) 1 0 32 = 33 := hf.2.1
  have hf3 : bytesS (beB 1 5 ++ s) 1 0 32 = s := hf.2.2
  simp [mpNums, hm, hf1, hf2, hf3, cutDoneE, hs, tagM]
theorem valid_seq (n : Int) (h0 : 0 ≤ n) (h : n < 281474976710656) : ValidM (seqM n) 4 := by
  refine ⟨rfl, rfl, fun i hi => ?_, rfl, by show 0 ≤ 1000; omega⟩
  match i, hi with
  | 0, _ => exact ⟨h0, by show n < 2 ^ (8 * 6); omega⟩
theorem valid_rtt (n : Int) (h0 : 0 ≤ n) (h : n < 65536) : ValidM (rttM n) 6 := by
  refine ⟨rfl, rfl, fun i hi => ?_, rfl, by show 0 ≤ 1000; omega⟩
  match i, hi with
  | 0, _ => exact ⟨h0, by show n < 2 ^ (8 * 2); omega⟩
theorem valid_tag (s : ByteArray) (h : s.size = 32) : ValidM (tagM s) 5 := by
  refine ⟨rfl, rfl, fun i hi => ?_, rfl, by show s.size ≤ 1000; omega⟩
  match i, hi with
  | 0, _ => show s.size ∈ [32]; rw [h]; simp
/-- The options of a datagram. -/
def dataOpts (num trip : Int) (tag : ByteArray) : List OptV := [putM (seqM num) 4, putM (rttM trip) 6, putM (tagM tag) 5]
theorem allM_data (num trip : Int) (tag : ByteArray) (h0 : 0 ≤ num) (h1 : num < 281474976710656) (h2 : 0 ≤ trip) (h3 : trip < 65536) (h4 : tag.size = 32) : allM (dataOpts num trip tag) = [seqM num, rttM trip, tagM tag] := by
  unfold allM dataOpts
  simp [get_seq num h0 h1, get_rtt trip h2 h3, get_tag tag h4]
theorem data_sizes (num trip : Int) (tag : ByteArray) (h4 : tag.size = 32) : Opt46 (dataOpts num trip tag) ∧ sizeTo (dataOpts num trip tag) 3 ≤ 400 ∧ ∀ o ∈ dataOpts num trip tag, o.value.size ≤ 40 := by
  have e1 : (putM (seqM num) 4).value.size = 7 := by show (beB 1 (u64 4) ++ beB 6 (u64 num)).size = 7; rw [ByteArray.size_append, beB_size, beB_size]
  have e2 : (putM (rttM trip) 6).value.size = 3 := by show (beB 1 (u64 6) ++ beB 2 (u64 trip)).size = 3; rw [ByteArray.size_append, beB_size, beB_size]
  have e3 : (putM (tagM tag) 5).value.size = 33 := by show (beB 1 (u64 5) ++ tag).size = 33; rw [ByteArray.size_append, beB_size, h4]
  refine ⟨fun i hi => ?_, ?_, ?_⟩
  · match i, hi with
    | 0, _ => exact ⟨rfl, by show (putM (seqM num) 4).value.size ≤ 253; omega⟩
    | 1, _ => exact ⟨rfl, by show (putM (rttM trip) 6).value.size ≤ 253; omega⟩
    | 2, _ => exact ⟨rfl, by show (putM (tagM tag) 5).value.size ≤ 253; omega⟩
  · unfold sizeTo dataOpts
    simp [e1, e2, e3]
  · intro o ho
    simp [dataOpts] at ho
    rcases ho with rfl | rfl | rfl <;> omega
theorem data_first (num trip : Int) (tag : ByteArray) : firstM [seqM num, rttM trip, tagM tag] 4 = some (seqM num) ∧ firstM [seqM num, rttM trip, tagM tag] 6 = some (rttM trip) ∧ firstM [seqM num, rttM trip, tagM tag] 5 = some (tagM tag) ∧ firstM [seqM num, rttM trip, tagM tag] 0 = none ∧ firstC [seqM num, rttM trip, tagM tag] = none := by
  refine ⟨rfl, rfl, rfl, rfl, rfl⟩
end Go.Proofs.YtjboillkhhefaaaGreatDoor
