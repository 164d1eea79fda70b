/- Sums with a key, in plain Lean. -/
import Derived.Test.YtjboillkhhefaaaGreatDoorShaSpec
set_option linter.unusedVariables false
namespace Go.Proofs.YtjboillkhhefaaaGreatDoor

def turnB (s : ByteArray) (n : UInt8) : ByteArray := ⟨(s.data.toList.map fun c => c ^^^ n).toArray⟩
def macFit (key : ByteArray) : ByteArray := if 64 < key.size then shaOf key else key
def macKey (key : ByteArray) : ByteArray := macFit key ++ ⟨Array.replicate (64 - (macFit key).size) 0⟩
def macOf (key all : ByteArray) : ByteArray := shaOf (turnB (macKey key) 92 ++ shaOf (turnB (macKey key) 54 ++ all))
def joinB (l : List ByteArray) : ByteArray := l.foldl (fun a b => a ++ b) ⟨#[]⟩

theorem turnB_size (s : ByteArray) (n : UInt8) : (turnB s n).size = s.size := by
  show (s.data.toList.map fun c => c ^^^ n).toArray.size = s.size
  simp
theorem shaTextGo_size (h : List Nat) (s : ByteArray) : (h.foldl (fun s n => s ++ beB 4 n) s).size = s.size + 4 * h.length := by
  induction h generalizing s with
  | nil => simp
  | cons a h ih => rw [List.foldl_cons, ih, ByteArray.size_append, beB_size, List.length_cons]; omega
theorem shaOf_size (s : ByteArray) : (shaOf s).size = 32 := by
  rw [shaOf, shaText, shaTextGo_size, shaBlocks_length _ _ rfl]
  rfl
theorem macFit_size (key : ByteArray) : (macFit key).size ≤ 64 := by
  unfold macFit; split
  · rw [shaOf_size]; omega
  · omega
theorem zeroB_size (k : Nat) : (⟨Array.replicate k 0⟩ : ByteArray).size = k := by
  show (Array.replicate k (0 : UInt8)).size = k
  simp
theorem macKey_size (key : ByteArray) : (macKey key).size = 64 := by
  have := macFit_size key
  rw [macKey, ByteArray.size_append, zeroB_size]; omega
theorem macOf_size (key all : ByteArray) : (macOf key all).size = 32 := shaOf_size _
theorem joinB_snoc (l : List ByteArray) (s : ByteArray) : joinB (l ++ [s]) = joinB l ++ s := by simp [joinB]
end Go.Proofs.YtjboillkhhefaaaGreatDoor
