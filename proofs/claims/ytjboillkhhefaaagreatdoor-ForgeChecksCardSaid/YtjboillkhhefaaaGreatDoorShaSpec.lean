/- The sum SHA-256, in plain Lean. -/
import Derived.Test.YtjboillkhhefaaaGreatDoorSpec
set_option linter.unusedVariables false
namespace Go.Proofs.YtjboillkhhefaaaGreatDoor

def ror32 (x n : Nat) : Nat := (x * 2 ^ (32 - n) % 4294967296) ||| (x / 2 ^ n)
def shaK : List Nat := [1116352408, 1899447441, 3049323471, 3921009573, 961987163, 1508970993, 2453635748, 2870763221, 3624381080, 310598401, 607225278, 1426881987, 1925078388, 2162078206, 2614888103, 3248222580, 3835390401, 4022224774, 264347078, 604807628, 770255983, 1249150122, 1555081692, 1996064986, 2554220882, 2821834349, 2952996808, 3210313671, 3336571891, 3584528711, 113926993, 338241895, 666307205, 773529912, 1294757372, 1396182291, 1695183700, 1986661051, 2177026350, 2456956037, 2730485921, 2820302411, 3259730800, 3345764771, 3516065817, 3600352804, 4094571909, 275423344, 430227734, 506948616, 659060556, 883997877, 958139571, 1322822218, 1537002063, 1747873779, 1955562222, 2024104815, 2227730452, 2361852424, 2428436474, 2756734187, 3204031479, 3329325298]
def shaH0 : List Nat := [1779033703, 3144134277, 1013904242, 2773480762, 1359893119, 2600822924, 528734635, 1541459225]
def add2 (a b : Nat) : Nat := (a + b) % 4294967296
/-- The number that stands behind l in the schedule. -/
def shaNext (l : List Nat) (i : Nat) : Nat :=
  let x := l.getD (i - 15) 0
  let y := l.getD (i - 2) 0
  add2 (add2 (add2 (l.getD (i - 16) 0) ((ror32 x 7 ^^^ ror32 x 18) ^^^ (x / 8))) (l.getD (i - 7) 0)) ((ror32 y 17 ^^^ ror32 y 19) ^^^ (y / 1024))
def shaHead (s : ByteArray) (k : Nat) : List Nat := (List.range k).map fun i => ofB (s.extract (4 * i) (4 * i + 4))
def shaGo (l : List Nat) : Nat → List Nat
  | 0 => l
  | k + 1 => let m := shaGo l k; m ++ [shaNext m m.length]
def shaW (s : ByteArray) : List Nat := shaGo (shaHead s 16) 48
/-- The complement in 32 bits. -/
def not32 (x : Nat) : Nat := 4294967295 - x
def sha1 (e f g h k w : Nat) : Nat := add2 (add2 (add2 (add2 h ((ror32 e 6 ^^^ ror32 e 11) ^^^ ror32 e 25)) ((e &&& f) ^^^ (not32 e &&& g))) k) w
def sha2 (a b c : Nat) : Nat := add2 ((ror32 a 2 ^^^ ror32 a 13) ^^^ ror32 a 22) (((a &&& b) ^^^ (a &&& c)) ^^^ (b &&& c))
def shaRound (v : List Nat) (k w : Nat) : List Nat :=
  let a := v.getD 0 0
  let b := v.getD 1 0
  let c := v.getD 2 0
  let e := v.getD 4 0
  let f := v.getD 5 0
  let g := v.getD 6 0
  let one := sha1 e f g (v.getD 7 0) k w
  [add2 one (sha2 a b c), a, b, c, add2 (v.getD 3 0) one, e, f, g]
def shaRounds (v w : List Nat) : Nat → List Nat
  | 0 => v
  | i + 1 => shaRound (shaRounds v w i) (shaK.getD i 0) (w.getD i 0)
def shaBlock (h : List Nat) (s : ByteArray) : List Nat := List.zipWith add2 (shaRounds h (shaW s) 64) h
/-- The state behind the whole blocks of bytes. -/
def shaBlocks (h : List Nat) (s : ByteArray) : Nat → List Nat
  | 0 => h
  | k + 1 => shaBlock (shaBlocks h s k) (s.extract (64 * k) (64 * k + 64))
def shaPad (s : ByteArray) (n : Nat) : ByteArray := s ++ ⟨#[128]⟩ ++ ⟨Array.replicate ((119 - n % 64) % 64) 0⟩ ++ beB 8 (8 * n)
def shaText (h : List Nat) : ByteArray := h.foldl (fun s n => s ++ beB 4 n) ⟨#[]⟩
def shaOf (s : ByteArray) : ByteArray := shaText (shaBlocks shaH0 (shaPad s s.size) ((shaPad s s.size).size / 64))

/-! ### Bounds -/
theorem add2_lt (a b : Nat) : add2 a b < 4294967296 := Nat.mod_lt _ (by omega)
theorem ror32_lt (x n : Nat) (h : x < 4294967296) : ror32 x n < 4294967296 := by
  unfold ror32
  have h1 : x / 2 ^ n < 2 ^ 32 := Nat.lt_of_le_of_lt (Nat.div_le_self _ _) h
  have h2 : x * 2 ^ (32 - n) % 4294967296 < 2 ^ 32 := Nat.mod_lt _ (by omega)
  exact Nat.or_lt_two_pow h2 h1
theorem xor32_lt {a b : Nat} (h : a < 4294967296) (k : b < 4294967296) : a ^^^ b < 4294967296 := Nat.xor_lt_two_pow (n := 32) h k
theorem and32_lt {a b : Nat} (h : a < 4294967296) : a &&& b < 4294967296 := Nat.lt_of_le_of_lt Nat.and_le_left h
theorem not32_lt (x : Nat) : not32 x < 4294967296 := by unfold not32; omega
theorem shaNext_lt (l : List Nat) (i : Nat) : shaNext l i < 4294967296 := add2_lt _ _
theorem sha1_lt (e f g h k w : Nat) : sha1 e f g h k w < 4294967296 := add2_lt _ _
theorem sha2_lt (a b c : Nat) : sha2 a b c < 4294967296 := add2_lt _ _
theorem shaGo_length (l : List Nat) (k : Nat) : (shaGo l k).length = l.length + k := by
  induction k with
  | zero => rfl
  | succ k ih => simp [shaGo, ih]; omega
theorem shaW_length (s : ByteArray) : (shaW s).length = 64 := by simp [shaW, shaGo_length, shaHead]
theorem shaRound_length (v : List Nat) (k w : Nat) : (shaRound v k w).length = 8 := rfl
theorem shaRounds_length (v w : List Nat) (h : v.length = 8) (i : Nat) : (shaRounds v w i).length = 8 := by
  cases i with
  | zero => exact h
  | succ i => rfl
theorem shaBlock_length (h : List Nat) (s : ByteArray) (hl : h.length = 8) : (shaBlock h s).length = 8 := by
  simp [shaBlock, shaRounds_length _ _ hl, hl]
theorem shaBlocks_length (h : List Nat) (s : ByteArray) (hl : h.length = 8) (k : Nat) : (shaBlocks h s k).length = 8 := by
  induction k with
  | zero => exact hl
  | succ k ih => exact shaBlock_length _ _ ih
/-- All of a list are numbers of 32 bits. -/
def Lt32 (l : List Nat) : Prop := ∀ x ∈ l, x < 4294967296
theorem Lt32.getD {l : List Nat} (h : Lt32 l) (i : Nat) : l.getD i 0 < 4294967296 := by
  rcases Nat.lt_or_ge i l.length with hi | hi
  · simp only [List.getD, List.getElem?_eq_getElem hi, Option.getD_some]; exact h _ (List.getElem_mem hi)
  · simp [List.getD, List.getElem?_eq_none hi]
theorem Lt32.round {v : List Nat} (h : Lt32 v) (k w : Nat) : Lt32 (shaRound v k w) := by
  have g := h.getD
  intro x hx
  simp only [shaRound, List.mem_cons, List.not_mem_nil, or_false] at hx
  rcases hx with rfl | rfl | rfl | rfl | rfl | rfl | rfl | rfl
  · exact add2_lt _ _
  · exact g 0
  · exact g 1
  · exact g 2
  · exact add2_lt _ _
  · exact g 4
  · exact g 5
  · exact g 6
theorem Lt32.rounds {v : List Nat} (h : Lt32 v) (w : List Nat) (i : Nat) : Lt32 (shaRounds v w i) := by
  cases i with
  | zero => exact h
  | succ i => exact Lt32.round (Lt32.rounds h w i) _ _
theorem Lt32.block (h : List Nat) (s : ByteArray) : Lt32 (shaBlock h s) := by
  intro x hx
  simp only [shaBlock, List.mem_iff_getElem, List.getElem_zipWith] at hx
  obtain ⟨i, hi, rfl⟩ := hx
  exact add2_lt _ _
theorem Lt32.blocks {h : List Nat} (hh : Lt32 h) (s : ByteArray) (k : Nat) : Lt32 (shaBlocks h s k) := by
  cases k with
  | zero => exact hh
  | succ k => exact Lt32.block _ _
theorem Lt32.H0 : Lt32 shaH0 := by unfold Lt32; decide
theorem Lt32.K : Lt32 shaK := by unfold Lt32; decide
theorem shaHead_lt (s : ByteArray) (k : Nat) : Lt32 (shaHead s k) := by
  intro x hx
  simp only [shaHead, List.mem_map] at hx
  obtain ⟨i, _, rfl⟩ := hx
  have h1 := ofB_lt (s.extract (4 * i) (4 * i + 4))
  have h2 : (s.extract (4 * i) (4 * i + 4)).size ≤ 4 := by rw [ByteArray.size_extract]; omega
  exact Nat.lt_of_lt_of_le h1 (Nat.le_trans (Nat.pow_le_pow_right (by omega) h2) (by decide))
theorem shaGo_lt {l : List Nat} (h : Lt32 l) (k : Nat) : Lt32 (shaGo l k) := by
  induction k with
  | zero => exact h
  | succ k ih =>
    intro x hx
    simp only [shaGo, List.mem_append, List.mem_singleton] at hx
    rcases hx with hx | rfl
    · exact ih x hx
    · exact shaNext_lt _ _
theorem shaW_lt (s : ByteArray) : Lt32 (shaW s) := shaGo_lt (shaHead_lt s 16) 48

/-- The sums so far of a state and the one ahead of a block. -/
def shaSum (v h : List Nat) (i : Nat) : List Nat := List.zipWith add2 (v.take i) (h.take i) ++ v.drop i
theorem shaSum_length (v h : List Nat) (i : Nat) (hv : v.length = 8) (hh : h.length = 8) (hi : i ≤ 8) : (shaSum v h i).length = 8 := by
  simp [shaSum, hv, hh]; omega
theorem shaSum_getD (v h : List Nat) (i : Nat) (hv : v.length = 8) (hh : h.length = 8) (hi : i < 8) : (shaSum v h i).getD i 0 = v.getD i 0 := by
  have h1 : (List.zipWith add2 (v.take i) (h.take i)).length = i := by simp [hv, hh]; omega
  simp [shaSum, List.getD, List.getElem?_append_right (Nat.le_of_eq h1), h1]
theorem shaSum_set (v h : List Nat) (i : Nat) (hv : v.length = 8) (hh : h.length = 8) (hi : i < 8) : (shaSum v h i).set i (add2 (v.getD i 0) (h.getD i 0)) = shaSum v h (i + 1) := by
  have h1 : (List.zipWith add2 (v.take i) (h.take i)).length = i := by simp [hv, hh]; omega
  have h2 : v.drop i = v.getD i 0 :: v.drop (i + 1) := by rw [List.drop_eq_getElem_cons (by omega)]; simp [List.getD, hv, hi]
  unfold shaSum
  rw [List.set_append_right _ _ (Nat.le_of_eq h1), h1, Nat.sub_self, h2, List.set_cons_zero]
  rw [List.take_succ_eq_append_getElem (by omega : i < v.length), List.take_succ_eq_append_getElem (by omega : i < h.length)]
  rw [List.zipWith_append (by simp [hv, hh])]
  simp [List.getD, hv, hh, hi]
theorem shaSum_all (v h : List Nat) (hv : v.length = 8) (hh : h.length = 8) : shaSum v h 8 = List.zipWith add2 v h := by
  simp [shaSum, List.take_of_length_le, hv, hh]
theorem set_next (l : List Nat) (m x : Nat) : (l ++ List.replicate (m + 1) 0).set l.length x = (l ++ [x]) ++ List.replicate m 0 := by
  rw [List.set_append_right _ _ (Nat.le_refl _), Nat.sub_self, List.replicate_succ, List.set_cons_zero, List.append_assoc]; rfl
theorem getD_left (l : List Nat) (m i : Nat) (h : i < l.length) : (l ++ List.replicate m 0).getD i 0 = l.getD i 0 := by
  simp [List.getD, List.getElem?_append_left h]
theorem shaHead_succ (s : ByteArray) (k : Nat) : shaHead s (k + 1) = shaHead s k ++ [ofB (s.extract (4 * k) (4 * k + 4))] := by
  simp [shaHead, List.range_succ]
theorem shaHead_length (s : ByteArray) (k : Nat) : (shaHead s k).length = k := by simp [shaHead]

/-! ### Pieces -/
theorem shaBlocks_more (h : List Nat) (a : ByteArray) (m j : Nat) (hj : 64 * (m + j) ≤ a.size) :
    shaBlocks (shaBlocks h a m) (a.extract (64 * m) a.size) j = shaBlocks h a (m + j) := by
  induction j with
  | zero => rfl
  | succ j ih =>
    rw [shaBlocks, ih (by omega), ext_ext _ _ _ _ _ (by omega)]
    have e : shaBlocks h a (m + (j + 1)) = shaBlock (shaBlocks h a (m + j)) (a.extract (64 * (m + j)) (64 * (m + j) + 64)) := rfl
    rw [e]
    congr 2 <;> omega
theorem ext_left (a b : ByteArray) (i j : Nat) (h : j ≤ a.size) : (a ++ b).extract i j = a.extract i j := by
  apply bytes_ext
  have e1 : a.data.toList.length = a.size := rfl
  rw [ext_toList, ext_toList]
  have : (a ++ b).data.toList = a.data.toList ++ b.data.toList := by simp
  rw [this, List.take_append_of_le_length (by omega)]
theorem ext_right (a b : ByteArray) (i : Nat) (h : i ≤ a.size) : (a ++ b).extract i (a ++ b).size = a.extract i a.size ++ b := by
  apply bytes_ext
  have e1 : a.data.toList.length = a.size := rfl
  have e2 : (a ++ b).data.toList = a.data.toList ++ b.data.toList := by simp
  have e3 : (a.extract i a.size ++ b).data.toList = (a.extract i a.size).data.toList ++ b.data.toList := by simp
  have e4 : (a ++ b).data.toList.length = (a ++ b).size := rfl
  rw [ext_toList, e3, ext_toList, List.take_of_length_le (by omega), List.take_of_length_le (by omega), e2, List.drop_append_of_le_length (by omega)]
theorem shaBlocks_left (h : List Nat) (a b : ByteArray) (m : Nat) (hm : 64 * m ≤ a.size) : shaBlocks h (a ++ b) m = shaBlocks h a m := by
  induction m with
  | zero => rfl
  | succ m ih => rw [shaBlocks, shaBlocks, ih (by omega), ext_left _ _ _ _ (by omega)]
/-- A sum's state behind bytes: the state behind the whole blocks, and what is left. -/
def sumH (a : ByteArray) : List Nat := shaBlocks shaH0 a (a.size / 64)
def sumR (a : ByteArray) : ByteArray := a.extract (64 * (a.size / 64)) a.size
theorem sumH_length (a : ByteArray) : (sumH a).length = 8 := shaBlocks_length _ _ rfl _
theorem sumH_lt (a : ByteArray) : Lt32 (sumH a) := Lt32.blocks Lt32.H0 _ _
theorem sumR_size (a : ByteArray) : (sumR a).size = a.size % 64 := by rw [sumR, ext_size]; omega
theorem sum_more (a b : ByteArray) : shaBlocks (sumH a) (sumR a ++ b) ((sumR a ++ b).size / 64) = sumH (a ++ b) ∧
    (sumR a ++ b).extract (64 * ((sumR a ++ b).size / 64)) (sumR a ++ b).size = sumR (a ++ b) := by
  have e1 : sumR a ++ b = (a ++ b).extract (64 * (a.size / 64)) (a ++ b).size := by rw [ext_right _ _ _ (by omega)]; rfl
  have e2 : (a ++ b).size = a.size + b.size := ByteArray.size_append
  have e3 : (sumR a ++ b).size = (a ++ b).size - 64 * (a.size / 64) := by rw [e1, ext_size]; omega
  have e4 : (a ++ b).size / 64 = a.size / 64 + (sumR a ++ b).size / 64 := by rw [e3]; omega
  constructor
  · have e5 : sumH a = shaBlocks shaH0 (a ++ b) (a.size / 64) := by rw [shaBlocks_left _ _ _ _ (by omega)]; rfl
    rw [e5, sumH, e4]
    generalize hj : (sumR a ++ b).size / 64 = j at *
    rw [e1, shaBlocks_more _ _ _ _ (by omega)]
  · show _ = (a ++ b).extract (64 * ((a ++ b).size / 64)) (a ++ b).size
    rw [e4]
    generalize hj : (sumR a ++ b).size / 64 = j at *
    rw [e1, ext_tail, Nat.mul_add]

end Go.Proofs.YtjboillkhhefaaaGreatDoor
