/- The program's package mpopt: Check, Put, at what may be said. -/
import Derived.Test.YtjboillkhhefaaaGreatDoorMph
set_option linter.unusedVariables false
namespace Go.Proofs.YtjboillkhhefaaaGreatDoor
open Go.RowKit

/-- What may be said. -/
def ValidM (m : MultiV) (k : Nat) : Prop := m.kind = k ∧ mpKnown k = true ∧ (∀ i (h : i < (mpParts k).length), partOk m (mpParts k)[i]) ∧ spareTo (mpParts k) m (mpParts k).length = zeroM ∧ m.bytes.size ≤ 1000
theorem mpParts_le (k : Nat) : (mpParts k).length ≤ 3 := by unfold mpParts; split <;> decide

set_option maxRecDepth 100000 in
set_option maxHeartbeats 1000000 in
theorem mpCheck (m : MultiV) (k : Nat) (w : World) (hv : ValidM m k) :
    Calls Tryz.prog 99 #[.agg m.cells] w fun e w' => e = .returned (.int .i64 0) ∧ Below w.heap.size w w' := by
  obtain ⟨hk, hkn, hok, hsp, -⟩ := hv
  have HOK := Lib.hid hok
  have HSP := Lib.hid hsp
  have hln := mpParts_le k
  obtain ⟨m1, m2, m3, m4, m5, m6, m7⟩ := m
  dsimp only at hk
  subst hk
  simp only [MultiV.cells]
  clear hok hsp
  go_enter Tryz.func99, Tryz.ntmps99
  go_wp2_with fail
  have BM : Hid (Blk (w.alloc (.cells (MultiV.cells ⟨k, m2, m3, m4, m5, m6, m7⟩) 65)) w.heap.size (MultiV.cells ⟨k, m2, m3, m4, m5, m6, m7⟩) 65) := Lib.hid (Blk.new _ _ _)
  refine (mpOf k _ hkn).mono ?_
  rintro e w1 ⟨b, rfl, hp, hb⟩
  have hp' : PartsIn (w.heap.size + 1) w1 b (mpParts k) := by have h := hp; rw [show (w.alloc _).heap.size = w.heap.size + 1 by simp] at h; exact h
  have HP := Lib.hid hp'
  have BM1 := Lib.hid (BM.out.below hb (by simp))
  have HB1 : Hid (Below w.heap.size w w1) := Lib.hid (((Below.refl _ _).alloc (Nat.le_refl _) _).trans (hb.mono (by simp)))
  have hsz1 : w.heap.size < w1.heap.size := by have := hb.size; simp at this; omega
  clear hp hp' hb BM
  generalize mpParts k = l at *
  go_wp2_with fail
  go_loopw [18] (fun c wr => ∃ i : Nat, i ≤ l.length ∧ c = .int .i64 i ∧ Below w1.heap.size w1 wr) (fun c _ => l.length - (intOf c).toNat)
  case atStart => exact ⟨0, by omega, rfl, Below.refl _ _⟩
  case round =>
    obtain ⟨i, hi, rfl, hb⟩ := hrel
    have hp := HP.out.below hb (Nat.le_refl _)
    have KM := Lib.hid (BM1.out.below hb hsz1)
    have HB := Lib.hid hb
    have hszr := hb.size
    clear hb
    by_cases hlt : i < l.length
    · have hlt' : (i : Int) < l.length := by omega
      have hi0 : (0 : Int) ≤ i := by omega
      obtain ⟨hBb, vs, hvl, hvb, hpa⟩ := hp
      have qv := hvb.cell i
      rw [List.getElem?_toArray, List.getElem?_eq_getElem (by omega)] at qv
      have hpi := hpa i hlt (by omega)
      have HO := Lib.hid (HOK.out i hlt)
      generalize vs[i]'(by omega) = v at *
      generalize hpl : l[i] = pt at *
      have HVB := hvb.lt
      clear hpl hvb hpa hvl
      cases pt with
      | num f size =>
        obtain ⟨rfl, hf⟩ := hpi
        have HF := Lib.hid hf
        have hmeth := meth_num_check (.agg #[.func (.func (fieldFn f)) #[] #[], .int .i64 size])
        clear hf
        go_wp2_with (first | (refine wpList_load_blk rfl 65 _ rfl w.heap.size rfl 65 _ _ KM.out Tryz.underlying65 rfl (by kernel_rfl) ?_))
        refine (mpNumCheck f size ⟨k, m2, m3, m4, m5, m6, m7⟩ _ HF.out HO.out).mono ?_
        rintro e w5 ⟨rfl, hb5⟩
        have HB5 := Lib.hid hb5
        clear hb5
        go_wp2_with fail
        go_roundw
        case rel => exact ⟨i + 1, by omega, by go_num, bnext HB.out HB5.out⟩
        case measure => simp [intOf]; omega
      | bytes bl =>
        obtain ⟨g, hBg, rfl, hgb, h0l, h32⟩ := hpi
        have HGB := Lib.hid hgb
        have H0L := Lib.hid h0l
        have hmeth := meth_bytes_check (.agg #[.slice (some ⟨g, 0, none⟩) bl.length bl.length])
        clear hgb h32 h0l
        go_wp2_with (first | (refine wpList_load_blk rfl 65 _ rfl w.heap.size rfl 65 _ _ KM.out Tryz.underlying65 rfl (by kernel_rfl) ?_))
        refine (mpBytesCheck bl g ⟨k, m2, m3, m4, m5, m6, m7⟩ _ HGB.out H0L.out.2 HO.out).mono ?_
        rintro e w5 ⟨rfl, hb5⟩
        have HB5 := Lib.hid hb5
        clear hb5
        go_wp2_with fail
        go_roundw
        case rel => exact ⟨i + 1, by omega, by go_num, bnext HB.out HB5.out⟩
        case measure => simp [intOf]; omega
    · obtain rfl : i = l.length := by omega
      have HPR := Lib.hid hp
      clear hp
      go_wp2_with (first | (refine wpList_load_blk rfl 65 _ rfl w.heap.size rfl 65 _ _ KM.out Tryz.underlying65 rfl (by kernel_rfl) ?_))
      refine (mpSpare (w.heap.size + 1) b l ⟨k, m2, m3, m4, m5, m6, m7⟩ _ (by omega) hln HPR.out _ rfl).mono ?_
      rintro e w5 ⟨rfl, hb5⟩
      have HB5 := Lib.hid hb5
      clear hb5
      rw [HSP.out]
      simp only [MultiV.cells, zeroM]
      go_wp2_with fail
      go_ret
      exact ⟨rfl, HB1.out.trans ((bnext HB.out HB5.out).mono (by omega))⟩

def putTo (m : MultiV) (l : List PartV) (k i : Nat) : ByteArray := (l.take i).foldl (partPut m) (beB 1 (u64 k))
theorem putTo_succ (m : MultiV) (l : List PartV) (k i : Nat) (h : i < l.length) : putTo m l k (i + 1) = partPut m (putTo m l k i) l[i] := by
  unfold putTo
  rw [List.take_succ_eq_append_getElem h, List.foldl_append]
  rfl
/-- An option of several paths, as an option. -/
def putM (m : MultiV) (k : Nat) : OptV := ⟨46, putTo m (mpParts k) k (mpParts k).length⟩
end Go.Proofs.YtjboillkhhefaaaGreatDoor
