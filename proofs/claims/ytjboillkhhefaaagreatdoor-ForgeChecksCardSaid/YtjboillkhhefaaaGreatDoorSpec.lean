/- What the functions compute, in plain Lean: bytes of numbers. Nothing of the program is imported. -/
import Derived.IntWalk
set_option linter.unusedVariables false
namespace Go.Proofs.YtjboillkhhefaaaGreatDoor

/-- A number modulo 2^64. -/
def u64 (n : Int) : Nat := (n % 18446744073709551616).toNat
theorem u64_lt (n : Int) : u64 n < 18446744073709551616 := by unfold u64; omega
theorem wrap_u64 (n : Int) : IntKind.u64.wrap n = (u64 n : Int) := by
  simp only [IntKind.wrap, u64]; simp [IntKind.bits, IntKind.signed]; omega
theorem u64_cast (n : Nat) (h : n < 18446744073709551616) : u64 n = n := by unfold u64; omega

/-- The k lowest bytes of a number, the highest of them ahead. -/
def be : Nat → Nat → List UInt8
  | 0, _ => []
  | k + 1, n => be k (n / 256) ++ [UInt8.ofNat (n % 256)]
def beB (k n : Nat) : ByteArray := ⟨(be k n).toArray⟩
theorem be_length (k n : Nat) : (be k n).length = k := by induction k generalizing n <;> simp [be, *]
theorem beB_size (k n : Nat) : (beB k n).size = k := by simp [beB, ByteArray.size, be_length]
theorem be_cons (k n : Nat) : be (k + 1) n = UInt8.ofNat (n / 256 ^ k % 256) :: be k n := by
  induction k generalizing n with
  | zero => simp [be]
  | succ k ih => rw [be, ih]; simp [be, Nat.div_div_eq_div_mul, Nat.pow_succ, Nat.mul_comm]

theorem bytes_ext {a b : ByteArray} (h : a.data.toList = b.data.toList) : a = b := by
  cases a; cases b; congr 1; exact Array.ext' h
theorem mk_append (s : ByteArray) (l : List UInt8) : (⟨(s.data.toList ++ l).toArray⟩ : ByteArray) = s ++ ⟨l.toArray⟩ := by
  apply bytes_ext; simp
theorem empty_app (s : ByteArray) : (⟨#[]⟩ : ByteArray) ++ s = s := by apply bytes_ext; simp
theorem app_empty (s : ByteArray) : s ++ (⟨#[]⟩ : ByteArray) = s := by apply bytes_ext; simp

/-- The number that bytes are, the highest ahead. -/
def ofL (l : List UInt8) : Nat := l.foldl (fun n b => n * 256 + b.toNat) 0
def ofB (s : ByteArray) : Nat := ofL s.data.toList
theorem ofL_snoc (l : List UInt8) (b : UInt8) : ofL (l ++ [b]) = ofL l * 256 + b.toNat := by simp [ofL]
theorem ofL_lt (l : List UInt8) : ofL l < 256 ^ l.length := by
  rw [← List.reverse_reverse l]
  generalize l.reverse = r
  induction r with
  | nil => simp [ofL]
  | cons b r ih =>
    rw [List.reverse_cons, ofL_snoc, List.length_append, List.length_singleton, Nat.pow_succ]
    have := b.toNat_lt
    generalize 256 ^ r.reverse.length = p at *
    omega
theorem ofB_lt (s : ByteArray) : ofB s < 256 ^ s.size := ofL_lt _
theorem ofL_take (s : ByteArray) (k : Nat) (h : k < s.size) : ofL (s.data.toList.take (k + 1)) = ofL (s.data.toList.take k) * 256 + s[k].toNat := by
  rw [List.take_succ_eq_append_getElem (by simpa using h), ofL_snoc]; rfl
theorem ofL_take_lt (s : ByteArray) (k : Nat) (h : s.size ≤ 7) : ofL (s.data.toList.take k) < 72057594037927936 := by
  refine Nat.lt_of_lt_of_le (ofL_lt _) ?_
  have : (s.data.toList.take k).length ≤ 7 := by rw [List.length_take]; have : s.data.toList.length = s.size := rfl; omega
  exact Nat.le_trans (Nat.pow_le_pow_right (by omega) this) (by decide)
theorem ofL_take_lt8 (s : ByteArray) (k : Nat) (h : s.size ≤ 7) (hk : k < s.size) : ofL (s.data.toList.take k) < 281474976710656 := by
  refine Nat.lt_of_lt_of_le (ofL_lt _) ?_
  have : (s.data.toList.take k).length ≤ 6 := by rw [List.length_take]; omega
  exact Nat.le_trans (Nat.pow_le_pow_right (by omega) this) (by decide)
theorem ofL_take_lt32 (s : ByteArray) (k : Nat) (h : s.size ≤ 4) : ofL (s.data.toList.take k) < 4294967296 := by
  refine Nat.lt_of_lt_of_le (ofL_lt _) ?_
  have : (s.data.toList.take k).length ≤ 4 := by rw [List.length_take]; have : s.data.toList.length = s.size := rfl; omega
  exact Nat.le_trans (Nat.pow_le_pow_right (by omega) this) (by decide)
theorem take_all (s : ByteArray) (k : Nat) (h : s.size ≤ k) : s.data.toList.take k = s.data.toList := List.take_of_length_le h
theorem or_byte (n b : Nat) (h : b < 256) : n * 256 ||| b = n * 256 + b := by
  have := Nat.shiftLeft_add_eq_or_of_lt (b := b) (i := 8) h n
  rw [Nat.shiftLeft_eq] at this
  exact this.symm

/-- What is wrong with a cut behind a try to take n of the bytes that are left. -/
def cutFell (left : Int) (fell n : Int) (wrong : Bool) : Int := if fell ≠ 0 then fell else if wrong then 3 else if left < n then 1 else 0
/-- The reader of bytes, as plain functions of (bytes, place, fault): the fault behind 'Bytes(n)', the place, the bytes. -/
def bytesF (s : ByteArray) (p : Nat) (f n : Int) : Int := cutFell (s.size - p) f n (decide (n < 0))
def bytesP (s : ByteArray) (p : Nat) (f n : Int) : Nat := if bytesF s p f n = 0 then p + n.toNat else p
def bytesS (s : ByteArray) (p : Nat) (f n : Int) : ByteArray := if bytesF s p f n = 0 then s.extract p (p + n.toNat) else ⟨#[]⟩
theorem bytesF_ok {s : ByteArray} {p : Nat} {f n : Int} (h : bytesF s p f n = 0) : f = 0 ∧ 0 ≤ n ∧ p + n.toNat ≤ s.size ∨ f = 0 ∧ 0 ≤ n ∧ s.size < p ∧ n ≤ (s.size : Int) - p := by
  unfold bytesF cutFell at h
  by_cases h1 : f = 0 <;> by_cases h2 : n < 0 <;> by_cases h3 : (s.size : Int) - p < n <;> simp [h1, h2, h3] at h
  omega
theorem bytesP_le {s : ByteArray} {p : Nat} {f n : Int} (h : p ≤ s.size) : bytesP s p f n ≤ s.size := by
  unfold bytesP; split
  · rename_i h1; rcases bytesF_ok h1 with h2 | h2 <;> omega
  · exact h
theorem bytes_fits {s : ByteArray} {p n : Nat} (h : p + n ≤ s.size) : bytesF s p 0 n = 0 ∧ bytesP s p 0 n = p + n ∧ bytesS s p 0 n = s.extract p (p + n) := by
  have h1 : bytesF s p 0 n = 0 := by simp [bytesF, cutFell]; omega
  simp [bytesP, bytesS, h1]
theorem bytes_short {s : ByteArray} {p n : Nat} (h : s.size < p + n) : bytesF s p 0 n = 1 ∧ bytesP s p 0 n = p ∧ bytesS s p 0 n = ⟨#[]⟩ := by
  have h1 : bytesF s p 0 n = 1 := by simp [bytesF, cutFell]; omega
  simp [bytesP, bytesS, h1]
theorem bytes_fell {s : ByteArray} {p : Nat} {f n : Int} (h : f ≠ 0) : bytesF s p f n = f ∧ bytesP s p f n = p ∧ bytesS s p f n = ⟨#[]⟩ := by
  have h1 : bytesF s p f n = f := by simp [bytesF, cutFell, h]
  simp [bytesP, bytesS, h1, h]
theorem bytesS_size {s : ByteArray} {p : Nat} {f n : Int} (h : p ≤ s.size) : (bytesS s p f n).size ≤ n.toNat := by
  unfold bytesS; split
  · simp only [ByteArray.size_extract]; omega
  · simp [ByteArray.size]

theorem ext_size (s : ByteArray) (a b : Nat) : (s.extract a b).size = min b s.size - a := by rw [ByteArray.size_extract]
theorem ext_toList (s : ByteArray) (a b : Nat) : (s.extract a b).data.toList = (s.data.toList.take b).drop a := by
  simp [ByteArray.data_extract, Array.toList_extract, List.drop_take]
theorem ext_ext (s : ByteArray) (a b c d : Nat) (h : a + d ≤ b) : (s.extract a b).extract c d = s.extract (a + c) (a + d) := by
  apply bytes_ext
  rw [ext_toList, ext_toList, ext_toList, List.take_drop, List.take_take, Nat.min_eq_left h, List.drop_drop]
theorem ext_all (s : ByteArray) : s.extract 0 s.size = s := by
  apply bytes_ext
  rw [ext_toList, List.drop_zero]
  exact List.take_of_length_le (Nat.le_refl _)
theorem ext_tail (s : ByteArray) (a c : Nat) : (s.extract a s.size).extract c (s.extract a s.size).size = s.extract (a + c) s.size := by
  apply bytes_ext
  have e1 : s.data.toList.length = s.size := rfl
  rw [ext_toList, ext_toList, ext_toList, ext_size, List.take_of_length_le (Nat.le_of_eq e1), List.take_of_length_le (by rw [List.length_drop]; omega), List.drop_drop]

end Go.Proofs.YtjboillkhhefaaaGreatDoor
