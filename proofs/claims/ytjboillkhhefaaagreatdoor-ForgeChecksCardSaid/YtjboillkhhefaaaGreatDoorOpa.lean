/- The program's package opts: Check, at options of several paths. -/
import Derived.Test.YtjboillkhhefaaaGreatDoorMpj
set_option linter.unusedVariables false
namespace Go.Proofs.YtjboillkhhefaaaGreatDoor
open Go.RowKit

/-- Options that may be said: of several paths. -/
def Opt46 (l : List OptV) : Prop := ∀ i (h : i < l.length), l[i].kind = 46 ∧ l[i].value.size ≤ 253
def sizeTo (l : List OptV) (k : Nat) : Nat := ((l.take k).map fun o => 2 + o.value.size).sum
theorem sizeTo_succ (l : List OptV) (k : Nat) (h : k < l.length) : sizeTo l (k + 1) = sizeTo l k + (2 + l[k].value.size) := by
  unfold sizeTo
  rw [List.take_succ_eq_append_getElem h, List.map_append, List.sum_append]
  simp
theorem sizeTo_le (l : List OptV) (k : Nat) (hk : k ≤ l.length) (h : Opt46 l) : sizeTo l k ≤ 255 * k := by
  induction k with
  | zero => simp [sizeTo]
  | succ k ih =>
    have := ih (by omega)
    have := (h k (by omega)).2
    rw [sizeTo_succ l k (by omega)]
    omega

set_option maxRecDepth 100000 in
set_option maxHeartbeats 1000000 in
theorem optsRight (s : ByteArray) (w : World) (hs : s.size ≤ 253) :
    Calls Tryz.prog 101 #[.agg #[.int .i64 46, .string s]] w fun e w' => e = .returned (.int .i64 0) ∧ w' = w.alloc (.cells #[.int .i64 46, .string s] 70) := by
  have h : decide (253 < (s.size : Int)) = false := by simp; omega
  go_enter Tryz.func101, Tryz.ntmps101
  go_wp2_with fail
  go_ret
  exact ⟨rfl, rfl⟩
set_option maxRecDepth 100000 in
set_option maxHeartbeats 1000000 in
theorem optsSize1 (s : ByteArray) (w : World) (hs : s.size ≤ 253) :
    Calls Tryz.prog 108 #[.agg #[.int .i64 46, .string s]] w fun e w' => e = .returned (.int .i64 (2 + s.size : Nat)) ∧ w' = w.alloc (.cells #[.int .i64 46, .string s] 70) := by
  go_enter Tryz.func108, Tryz.ntmps108
  go_wp2_with fail
  go_ret
  exact ⟨ret_int (by omega), rfl⟩
set_option maxRecDepth 100000 in
set_option maxHeartbeats 1000000 in
theorem optsSize (l : List OptV) (v : Value) (w : World) (hl : l.length ≤ 1000) (hv : OptsAt w v l) (h46 : Opt46 l) :
    Calls Tryz.prog 102 #[v] w fun e w' => e = .returned (.int .i64 (sizeTo l l.length : Nat)) ∧ Below w.heap.size w w' := by
  obtain ⟨p, cap, rfl, hcap, hx⟩ := hv
  have HX := Lib.hid hx
  have H46 := Lib.hid h46
  clear hx h46
  go_enter Tryz.func102, Tryz.ntmps102
  go_wp2_with fail
  go_loopw [3, 8] (fun n c wr => ∃ i : Nat, i ≤ l.length ∧ n = .int .i64 (sizeTo l i : Nat) ∧ c = .int .i64 i ∧ Below w.heap.size w wr) (fun _ c _ => l.length - (intOf c).toNat)
  case atStart => exact ⟨0, by omega, rfl, rfl, Below.refl _ _⟩
  case round =>
    obtain ⟨i, hi', rfl, rfl, hb⟩ := hrel
    have hsl := sizeTo_le l i hi' H46.out
    by_cases hlt : i < l.length
    · have hlt' : (i : Int) < l.length := by omega
      have hlt2 : (i : Int) < cap := by omega
      have hi0 : (0 : Int) ≤ i := by omega
      obtain ⟨b, off, rfl, hbl, hx0, hx1⟩ := HX.out i hlt
      have q0 := (hb.cell (p := ⟨b, off + i * 2, none⟩) hbl).trans hx0
      have q1 := (hb.cell (p := ⟨b, off + i * 2 + 1, none⟩) hbl).trans hx1
      obtain ⟨hk, hz⟩ := H46.out i hlt
      have HSS := Lib.hid (sizeTo_succ l i hlt)
      generalize l[i] = o at *
      generalize sizeTo l i = t at *
      obtain ⟨kind, val⟩ := o
      dsimp only at q0 q1 hx0 hx1 hk hz
      subst hk
      have HB := Lib.hid hb
      clear hx0 hx1 hb
      have hsz := HB.out.size
      go_wp2_with fail
      refine (optsSize1 val _ hz).mono ?_
      rintro e w2 ⟨rfl, rfl⟩
      go_wp2_with fail
      go_roundw
      case rel => exact ⟨i + 1, by omega, by rw [HSS.out]; exact congrArg (Value.int .i64) (by push_cast; omega), by go_num, (HB.out.alloc hsz _).alloc (by simp; omega) _⟩
      case measure => simp [intOf]; omega
    · obtain rfl : i = l.length := by omega
      go_wp2_with fail
      go_ret
      exact ⟨rfl, hb⟩
set_option maxRecDepth 100000 in
set_option maxHeartbeats 1000000 in
theorem optsCheck (l : List OptV) (v : Value) (w : World) (hl : l.length ≤ 1000) (hv : OptsAt w v l) (h46 : Opt46 l) (h400 : sizeTo l l.length ≤ 400) :
    Calls Tryz.prog 55 #[v] w fun e w' => e = .returned (.int .i64 0) ∧ Below w.heap.size w w' := by
  have HV := Lib.hid hv
  obtain ⟨p, cap, rfl, hcap, hx⟩ := hv
  have HX := Lib.hid hx
  have H46 := Lib.hid h46
  clear hx h46
  go_enter Tryz.func55, Tryz.ntmps55
  go_wp2_with fail
  go_loopw [10] (fun c wr => ∃ i : Nat, i ≤ l.length ∧ c = .int .i64 i ∧ Below w.heap.size w wr) (fun c _ => l.length - (intOf c).toNat)
  case atStart => exact ⟨0, by omega, rfl, Below.refl _ _⟩
  case round =>
    obtain ⟨i, hi', rfl, hb⟩ := hrel
    by_cases hlt : i < l.length
    · have hlt' : (i : Int) < l.length := by omega
      have hlt2 : (i : Int) < cap := by omega
      have hi0 : (0 : Int) ≤ i := by omega
      obtain ⟨b, off, rfl, hbl, hx0, hx1⟩ := HX.out i hlt
      have q0 := (hb.cell (p := ⟨b, off + i * 2, none⟩) hbl).trans hx0
      have q1 := (hb.cell (p := ⟨b, off + i * 2 + 1, none⟩) hbl).trans hx1
      obtain ⟨hk, hz⟩ := H46.out i hlt
      generalize l[i] = o at *
      obtain ⟨kind, val⟩ := o
      dsimp only at q0 q1 hx0 hx1 hk hz
      subst hk
      have HB := Lib.hid hb
      clear hx0 hx1 hb
      have hsz := HB.out.size
      go_wp2_with fail
      refine (optsRight val _ hz).mono ?_
      rintro e w2 ⟨rfl, rfl⟩
      go_wp2_with fail
      go_roundw
      case rel => exact ⟨i + 1, by omega, by go_num, (HB.out.alloc hsz _).alloc (by simp; omega) _⟩
      case measure => simp [intOf]; omega
    · obtain rfl : i = l.length := by omega
      have HB0 := Lib.hid hb
      clear hb
      go_wp2_with fail
      go_loopw [22] (fun c wr => ∃ i : Nat, i ≤ l.length ∧ c = .int .i64 i ∧ Below w.heap.size w wr) (fun c _ => l.length - (intOf c).toNat)
      case atStart => exact ⟨0, by omega, rfl, HB0.out⟩
      case round =>
        obtain ⟨i, hi', rfl, hb⟩ := hrel
        by_cases hlt : i < l.length
        · have hlt' : (i : Int) < l.length := by omega
          have hlt2 : (i : Int) < cap := by omega
          have hi0 : (0 : Int) ≤ i := by omega
          obtain ⟨b, off, rfl, hbl, hx0, hx1⟩ := HX.out i hlt
          have q0 := (hb.cell (p := ⟨b, off + i * 2, none⟩) hbl).trans hx0
          have q1 := (hb.cell (p := ⟨b, off + i * 2 + 1, none⟩) hbl).trans hx1
          obtain ⟨hk, hz⟩ := H46.out i hlt
          generalize l[i] = o at *
          obtain ⟨kind, val⟩ := o
          dsimp only at q0 q1 hx0 hx1 hk hz
          subst hk
          have HB := Lib.hid hb
          clear hx0 hx1 hb
          have hsz := HB.out.size
          go_wp2_with fail
          go_roundw
          case rel => exact ⟨i + 1, by omega, by go_num, HB.out.alloc hsz _⟩
          case measure => simp [intOf]; omega
        · obtain rfl : i = l.length := by omega
          have HB := Lib.hid hb
          clear hb
          go_wp2_with fail
          refine (optsSize l _ _ hl (HV.out.below HB.out (Nat.le_refl _)) H46.out).mono ?_
          rintro e w2 ⟨rfl, hb2⟩
          have hle : ((sizeTo l l.length : Nat) : Int) ≤ 400 := by omega
          have HB2 := Lib.hid hb2
          clear hb2
          go_wp2_with fail
          go_ret
          exact ⟨rfl, bnext HB.out HB2.out⟩
end Go.Proofs.YtjboillkhhefaaaGreatDoor
