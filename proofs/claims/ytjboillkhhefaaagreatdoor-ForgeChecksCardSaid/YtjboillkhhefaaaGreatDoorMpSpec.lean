/- Options of several paths, in plain Lean. -/
import Derived.Test.YtjboillkhhefaaaGreatDoorSpec
set_option linter.unusedVariables false
namespace Go.Proofs.YtjboillkhhefaaaGreatDoor

/-- An option: its kind, and its bytes. -/
structure OptV where
  kind : Int
  value : ByteArray
/-- An option of several paths. -/
structure MultiV where
  kind : Int
  addr : Int
  prio : Int
  num : Int
  token : Int
  nonce : Int
  bytes : ByteArray
def zeroM : MultiV := ⟨0, 0, 0, 0, 0, 0, ⟨#[]⟩⟩
def OptV.cells (o : OptV) : Array Value := #[.int .i64 o.kind, .string o.value]
def MultiV.cells (m : MultiV) : Array Value := #[.int .i64 m.kind, .int .i64 m.addr, .int .i64 m.prio, .int .i64 m.num, .int .i64 m.token, .int .i64 m.nonce, .string m.bytes]
/-- Is there such a kind? -/
def mpKnown (k : Nat) : Bool := decide (k ≤ 11) && decide (k ≠ 2)
/-- Of Addr, Prio, Token, Nonce, Num how many bytes a kind has, and the least and the most Bytes. -/
def mpSizes (k : Nat) : List Nat :=
  match k with
  | 0 => [0, 0, 0, 0, 4, 32, 32]
  | 1 => [1, 0, 4, 4, 0, 0, 0]
  | 3 => [0, 0, 0, 0, 0, 8, 16]
  | 4 => [0, 0, 0, 0, 6, 0, 0]
  | 5 => [0, 0, 0, 0, 0, 32, 32]
  | 6 => [0, 0, 0, 0, 2, 0, 0]
  | 7 => [1, 0, 0, 0, 4, 0, 0]
  | 8 => [1, 0, 0, 0, 4, 0, 0]
  | 9 => [1, 1, 0, 0, 4, 0, 0]
  | 10 => [0, 0, 0, 0, 4, 0, 0]
  | 11 => [0, 0, 0, 0, 1, 0, 0]
  | _ => [0, 0, 0, 0, 0, 0, 0]
theorem mpSizes_length (k : Nat) : (mpSizes k).length = 7 := by unfold mpSizes; split <;> rfl
theorem mpSizes_le (k i : Nat) : (mpSizes k).getD i 0 ≤ 32 := by
  unfold mpSizes
  split <;> (match i with | 0 => decide | 1 => decide | 2 => decide | 3 => decide | 4 => decide | 5 => decide | 6 => decide | n + 7 => simp)
theorem mpSizes_low (k i : Nat) (h : i < 5) : (mpSizes k).getD i 0 ≤ 7 := by
  unfold mpSizes
  split <;> (match i, h with | 0, _ => decide | 1, _ => decide | 2, _ => decide | 3, _ => decide | 4, _ => decide)
/-- The numbers of an option that are read: the numbers, the place, the fault. -/
def mpNums (s : ByteArray) (z : List Nat) : Nat → List Int × Nat × Int
  | 0 => (List.replicate 5 0, 1, 0)
  | i + 1 =>
    let r := mpNums s z i
    if z.getD i 0 = 0 then r else (r.1.set i (ofB (bytesS s r.2.1 r.2.2 (z.getD i 0)) : Nat), bytesP s r.2.1 r.2.2 (z.getD i 0), bytesF s r.2.1 r.2.2 (z.getD i 0))
theorem mpNums_length (s : ByteArray) (z : List Nat) (i : Nat) : (mpNums s z i).1.length = 5 := by
  induction i with
  | zero => rfl
  | succ i ih => unfold mpNums; dsimp only; split <;> simp [ih]
theorem mpNums_at (s : ByteArray) (z : List Nat) (h : 1 ≤ s.size) (i : Nat) : (mpNums s z i).2.1 ≤ s.size := by
  induction i with
  | zero => exact h
  | succ i ih => unfold mpNums; dsimp only; split
                 · exact ih
                 · exact bytesP_le ih
def cutDoneE (s : ByteArray) (p : Nat) (f : Int) : Int := if f = 0 ∧ p < s.size then 2 else f
/-- How many Bytes are read. -/
def mpMany (s : ByteArray) (z : List Nat) (p : Nat) : Nat := if (z.getD 6 0 : Int) ≤ (s.size : Int) - p then z.getD 6 0 else z.getD 5 0
/-- What an option says. -/
def getMv (s : ByteArray) (k : Nat) : Int × MultiV :=
  let z := mpSizes k
  let r := mpNums s z 5
  let n := mpMany s z r.2.1
  let b := if z.getD 6 0 = 0 then ⟨#[]⟩ else bytesS s r.2.1 r.2.2 n
  let p := if z.getD 6 0 = 0 then r.2.1 else bytesP s r.2.1 r.2.2 n
  let f := if z.getD 6 0 = 0 then r.2.2 else bytesF s r.2.1 r.2.2 n
  let e := cutDoneE s p f
  if e = 0 then (0, ⟨k, r.1.getD 0 0, r.1.getD 1 0, r.1.getD 4 0, r.1.getD 2 0, r.1.getD 3 0, b⟩) else (e, zeroM)
def byte0 (s : ByteArray) : Nat := (s.data.toList.getD 0 0).toNat
def getM (o : OptV) : Int × MultiV :=
  if o.kind ≠ 46 then (7, zeroM) else if o.value.size = 0 then (1, zeroM) else if mpKnown (byte0 o.value) = false then (7, zeroM) else getMv o.value (byte0 o.value)
end Go.Proofs.YtjboillkhhefaaaGreatDoor
