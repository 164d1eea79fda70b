/- The program's package mpopt: what may be said: Check. -/
import Derived.Test.YtjboillkhhefaaaGreatDoorMpe
import Derived.Test.YtjboillkhhefaaaGreatDoorLib
import Derived.Test.YtjboillkhhefaaaGreatDoorKeysb
import Derived.Lib.QuietBelow
set_option linter.unusedVariables false
namespace Go.Proofs.YtjboillkhhefaaaGreatDoor
open Go.RowKit

def MultiV.get (m : MultiV) (f : Nat) : Int := match f with
  | 1 => m.addr
  | 2 => m.prio
  | 3 => m.num
  | 4 => m.token
  | _ => m.nonce
theorem MultiV.get_cells (m : MultiV) (f : Nat) (h1 : 1 ≤ f) (h5 : f ≤ 5) : m.cells[f]? = some (.int .i64 (m.get f)) := by
  match f, h1, h5 with
  | 1, _, _ => rfl
  | 2, _, _ => rfl
  | 3, _, _ => rfl
  | 4, _, _ => rfl
  | 5, _, _ => rfl
/-- May a part be said? -/
def partOk (m : MultiV) : PartV → Prop
  | .num f size => 0 ≤ m.get f ∧ m.get f < 2 ^ (8 * size)
  | .bytes l => m.bytes.size ∈ l
theorem meth_num_check (v : Value) (w : World) : (method 404 241 v "anabranch/mpopt.check").run Tryz.prog w = .ok (226, v) w := by kernel_rfl
theorem meth_bytes_check (v : Value) (w : World) : (method 404 243 v "anabranch/mpopt.check").run Tryz.prog w = .ok (229, v) w := by kernel_rfl
theorem meth_num_put (v : Value) (w : World) : (method 404 241 v "anabranch/mpopt.put").run Tryz.prog w = .ok (227, v) w := by kernel_rfl
theorem meth_bytes_put (v : Value) (w : World) : (method 404 243 v "anabranch/mpopt.put").run Tryz.prog w = .ok (230, v) w := by kernel_rfl

set_option maxRecDepth 100000 in
set_option maxHeartbeats 1000000 in
theorem mpNumCheck (f size : Nat) (m : MultiV) (w : World) (hf : 1 ≤ f ∧ f ≤ 5 ∧ 1 ≤ size ∧ size ≤ 7) (hm : partOk m (.num f size)) :
    Calls Tryz.prog 226 #[.agg #[.func (.func (fieldFn f)) #[] #[], .int .i64 size], .agg m.cells] w fun e w' => e = .returned (.int .i64 0) ∧ Below w.heap.size w w' := by
  obtain ⟨h1, h5, hs1, hs7⟩ := hf
  obtain ⟨h0, hlt⟩ := hm
  have eF := fieldFn_enters f h1 h5
  have HC := Lib.hid (MultiV.get_cells m f h1 h5)
  obtain ⟨n, hn⟩ : ∃ n : Nat, m.get f = n := ⟨(m.get f).toNat, by omega⟩
  rw [hn] at HC hlt
  have hlt' : n < 2 ^ (8 * size) := by exact_mod_cast hlt
  have hsh : (n : Int) / 2 ^ (8 * size) = 0 := Int.ediv_eq_zero_of_lt (by omega) hlt
  have hsb : ((n : Int) / 2 ^ (8 * size) != 0) = false := by rw [hsh]; rfl
  have hnb : decide ((n : Int) < 0) = false := by simp
  have hn0 : (0 : Int) ≤ n := by omega
  have h8 : 0 ≤ 8 * (size : Int) ∧ 8 * (size : Int) ≤ 56 := by omega
  clear hn h0 hsh hlt
  obtain ⟨m1, m2, m3, m4, m5, m6, m7⟩ := m
  have hc : [Value.int .i64 m1, .int .i64 m2, .int .i64 m3, .int .i64 m4, .int .i64 m5, .int .i64 m6, .string m7][f]? = some (.int .i64 n) := by have h := HC.out; simpa [MultiV.cells] using h
  simp only [MultiV.cells]
  clear HC
  go_enter Tryz.func226, Tryz.ntmps226
  go_wp2_with (first | (refine (mpField f (w.heap.size + 1) _ h1 h5).mono ?_; rintro e w5 ⟨rfl, rfl⟩))
  go_ret
  exact ⟨rfl, ((Below.refl _ _).alloc (Nat.le_refl _) _).alloc (by simp) _⟩

set_option maxRecDepth 100000 in
set_option maxHeartbeats 1000000 in
theorem mpBytesCheck (l : List Nat) (g : Nat) (m : MultiV) (w : World) (hg : Blk w g (ints (nats l)) 3) (hl : l.length ≤ 100) (hm : partOk m (.bytes l)) :
    Calls Tryz.prog 229 #[.agg #[.slice (some ⟨g, 0, none⟩) l.length l.length], .agg m.cells] w fun e w' => e = .returned (.int .i64 0) ∧ Below w.heap.size w w' := by
  have HM := Lib.hid hm
  have HG := Lib.hid hg
  have hgl := hg.lt
  clear hm hg
  obtain ⟨m1, m2, m3, m4, m5, m6, m7⟩ := m
  simp only [MultiV.cells]
  go_enter Tryz.func229, Tryz.ntmps229
  go_wp2_with fail
  refine (Tryz.slices_Contains_int g 0 l.length l.length (nats l) (m7.size : Int) _ (by rw [nats_length]; omega) (by omega) (fun j hj => ?_)).mono ?_
  · rw [((HG.out.alloc _).alloc _).cell (0 + j), Nat.zero_add, ints_get _ _ hj]
  rintro e w2 ⟨rfl, rfl⟩
  have hc : ((nats l).take l.length).contains (m7.size : Int) = true := by
    rw [List.take_of_length_le (by rw [nats_length]; omega), List.contains_iff_mem]
    unfold nats
    exact List.mem_map.2 ⟨m7.size, HM.out, rfl⟩
  rw [hc]
  clear hc
  go_wp2_with fail
  go_ret
  exact ⟨rfl, ((Below.refl _ _).alloc (Nat.le_refl _) _).alloc (by simp) _⟩

/-- A part, as it is said. -/
def partPut (m : MultiV) (s : ByteArray) : PartV → ByteArray
  | .num f size => s ++ beB size (u64 (m.get f))
  | .bytes l => s ++ m.bytes
set_option maxRecDepth 100000 in
set_option maxHeartbeats 1000000 in
theorem mpBytesPut (g n : Nat) (s : ByteArray) (m : MultiV) (w : World) (hs : s.size ≤ 1099511627776) (hm : m.bytes.size ≤ 1099511627776) :
    Calls Tryz.prog 230 #[.agg #[.slice (some ⟨g, 0, none⟩) n n], .string s, .agg m.cells] w fun e w' => e = .returned (.string (s ++ m.bytes)) ∧ Below w.heap.size w w' := by
  obtain ⟨m1, m2, m3, m4, m5, m6, m7⟩ := m
  have hm' : m7.size ≤ 1099511627776 := hm
  have hcat : ¬ 9223372036854775807 < s.size + m7.size := by omega
  simp only [MultiV.cells]
  go_enter Tryz.func230, Tryz.ntmps230
  go_wp2_with fail
  go_ret
  exact ⟨rfl, ((Below.refl _ _).alloc (Nat.le_refl _) _).alloc (by simp) _⟩

set_option maxRecDepth 100000 in
set_option maxHeartbeats 1000000 in
theorem mpNumPut (f size : Nat) (s : ByteArray) (m : MultiV) (w : World) (hf : 1 ≤ f ∧ f ≤ 5 ∧ 1 ≤ size ∧ size ≤ 7) (hs : s.size ≤ 1099511627776) :
    Calls Tryz.prog 227 #[.agg #[.func (.func (fieldFn f)) #[] #[], .int .i64 size], .string s, .agg m.cells] w fun e w' => e = .returned (.string (s ++ beB size (u64 (m.get f)))) ∧ Below w.heap.size w w' := by
  obtain ⟨h1, h5, hs1, hs7⟩ := hf
  have eF := fieldFn_enters f h1 h5
  have HC := Lib.hid (MultiV.get_cells m f h1 h5)
  generalize m.get f = n at *
  obtain ⟨w0, hw0⟩ : ∃ w0, w0 = (w.alloc (.cells #[.func (.func (fieldFn f)) #[] #[], .int .i64 size] 241)).alloc (.cells m.cells 65) := ⟨_, rfl⟩
  have B0 : Hid (Blk w0 w.heap.size #[.func (.func (fieldFn f)) #[] #[], .int .i64 size] 241) := Lib.hid (by rw [hw0]; exact (Blk.new _ _ _).alloc _)
  have BM : Hid (Blk w0 (w.heap.size + 1) m.cells 65) := Lib.hid (by rw [hw0]; exact Blk.new2 _ _ _ _)
  have HB0 : Hid (Below w.heap.size w w0) := Lib.hid (by rw [hw0]; exact ((Below.refl _ _).alloc (Nat.le_refl _) _).alloc (by simp) _)
  have k0 := cell_regrown (show w0.cell? ⟨w.heap.size, 0, none⟩ = some (.func (.func (fieldFn f)) #[] #[]) by rw [B0.out.cell 0]; rfl)
  have k1 := cell_regrown (show w0.cell? ⟨w.heap.size, 1, none⟩ = some (.int .i64 size) by rw [B0.out.cell 1]; rfl)
  have k2 := cell_regrown (show w0.cell? ⟨w.heap.size + 1, f, none⟩ = some (.int .i64 n) by rw [BM.out.cell f]; exact HC.out)
  have CF := Lib.hid (fun (d : Nat) (os : Array Obj) => Calls.regrown_of ((mpField f (w.heap.size + 1) (Sort.grow (redrawn w0 d) os) h1 h5).mono (fun e w' ⟨he, hw⟩ => ⟨he, hw ▸ Below.refl _ _⟩)))
  have CP := Lib.hid (fun (d : Nat) (os : Array Obj) => Calls.regrown_of (octPutZ s n size (Sort.grow (redrawn w0 d) os) hs (by omega) (by omega)))
  obtain ⟨m1, m2, m3, m4, m5, m6, m7⟩ := m
  simp only [MultiV.cells] at *
  clear HC B0 BM
  go_enter Tryz.func227, Tryz.ntmps227
  go_wp2_with fail
  rw [← hw0]
  clear hw0
  refine wp_region_quiet_below (by kernel_rfl) (by kernel_rfl) ?_
  repeat (go_big_quiet_step (first | exact CF.out _ _ | (go_at_call 52; exact CP.out _ _)))
  refine wpQuiet_nil ?_
  intro w8 hw'
  have hb8 : Below w0.heap.size w0 w8 := by obtain ⟨p, rfl⟩ := hw'; exact below_regrown _ _ _
  clear hw'
  go_wp2_with fail
  go_ret
  exact ⟨by simp, bnext HB0.out hb8⟩
end Go.Proofs.YtjboillkhhefaaaGreatDoor
