/- The program's package mpopt: Put, at what may be said. -/
import Derived.Test.YtjboillkhhefaaaGreatDoorMpi
set_option linter.unusedVariables false
namespace Go.Proofs.YtjboillkhhefaaaGreatDoor
open Go.RowKit

theorem oneO (o : OptV) : ∀ v ∈ o.cells.toList, v.oneCell' = true := by
  intro v hv
  simp [OptV.cells] at hv
  rcases hv with rfl | rfl <;> rfl
set_option maxRecDepth 100000 in
set_option maxHeartbeats 1000000 in
theorem mpPut (m : MultiV) (k : Nat) (w : World) (hv : ValidM m k) (hk256 : k < 256) :
    Calls Tryz.prog 54 #[.agg m.cells] w fun e w' => e = .returned (.tuple #[.agg (putM m k).cells, .int .i64 0]) ∧ Below w.heap.size w w' := by
  have HVM := Lib.hid hv
  obtain ⟨hk, hkn, -, -, hbs⟩ := hv
  have hln := mpParts_le k
  obtain ⟨m1, m2, m3, m4, m5, m6, m7⟩ := m
  dsimp only at hk hbs
  subst hk
  have HPT : Hid (putM ⟨k, m2, m3, m4, m5, m6, m7⟩ k = ⟨46, putTo ⟨k, m2, m3, m4, m5, m6, m7⟩ (mpParts k) k (mpParts k).length⟩) := rfl
  have HP0 : Hid (putTo ⟨k, m2, m3, m4, m5, m6, m7⟩ (mpParts k) k 0 = beB 1 (u64 k)) := rfl
  have HPS := Lib.hid (putTo_succ ⟨k, m2, m3, m4, m5, m6, m7⟩ (mpParts k) k)
  have HB1Z := Lib.hid (beB_size 1 (u64 k))
  simp only [MultiV.cells]
  go_enter Tryz.func54, Tryz.ntmps54
  go_wp2_with (first | (refine wpList_load_blk rfl 65 _ rfl w.heap.size rfl 65 (MultiV.cells ⟨k, m2, m3, m4, m5, m6, m7⟩) _ ((Blk.new w _ _).alloc _) Tryz.underlying65 rfl (by kernel_rfl) ?_))
  have hb0 : Below w.heap.size w ((w.alloc (.cells (MultiV.cells ⟨k, m2, m3, m4, m5, m6, m7⟩) 65)).alloc (.cells #[.int .i64 0, .string ⟨#[]⟩] 70)) := ((Below.refl _ _).alloc (Nat.le_refl _) _).alloc (by simp) _
  have BM : Hid (Blk ((w.alloc (.cells (MultiV.cells ⟨k, m2, m3, m4, m5, m6, m7⟩) 65)).alloc (.cells #[.int .i64 0, .string ⟨#[]⟩] 70)) w.heap.size (MultiV.cells ⟨k, m2, m3, m4, m5, m6, m7⟩) 65) := Lib.hid ((Blk.new _ _ _).alloc _)
  have BO : Hid (Blk ((w.alloc (.cells (MultiV.cells ⟨k, m2, m3, m4, m5, m6, m7⟩) 65)).alloc (.cells #[.int .i64 0, .string ⟨#[]⟩] 70)) (w.heap.size + 1) #[.int .i64 0, .string ⟨#[]⟩] 70) := Lib.hid (Blk.new2 w _ _ _)
  refine (mpCheck ⟨k, m2, m3, m4, m5, m6, m7⟩ k _ HVM.out).mono ?_
  rintro e w1 ⟨rfl, hb1⟩
  have HB1 : Hid (Below w.heap.size w w1) := Lib.hid (hb0.trans (hb1.mono (by simp; omega)))
  have hsz1 : w.heap.size + 1 < w1.heap.size := by have := hb1.size; simp at this; omega
  have BM1 := Lib.hid (BM.out.below hb1 (by simp; omega))
  have BO1 := Lib.hid (BO.out.below hb1 (by simp))
  have qk : w1.cell? ⟨w.heap.size, 0, none⟩ = some (.int .i64 k) := by rw [BM1.out.cell 0]; rfl
  clear hb0 hb1 BM BO
  go_wp2_with fail
  refine (octPutE k 1 _ (by omega) (by omega)).mono ?_
  rintro e w2 ⟨rfl, hb2⟩
  rw [show (1 : Int).toNat = 1 from rfl]
  have HB2 : Hid (Below w.heap.size w w2) := Lib.hid (HB1.out.trans (hb2.mono (by omega)))
  have hsz2 : w.heap.size + 1 < w2.heap.size := by have := hb2.size; omega
  have BM2 := Lib.hid (BM1.out.below hb2 (by omega))
  have BO2 := Lib.hid (BO1.out.below hb2 (by omega))
  have qk2 : w2.cell? ⟨w.heap.size, 0, none⟩ = some (.int .i64 k) := by rw [BM2.out.cell 0]; rfl
  clear qk hb2 BM1 BO1
  go_wp2_with fail
  refine (mpOf k _ hkn).mono ?_
  rintro e w3 ⟨b, rfl, hp, hb⟩
  have HP := Lib.hid hp
  have BM3 := Lib.hid (BM2.out.below hb (by omega))
  have BO3 := Lib.hid (BO2.out.below hb (by omega))
  have HB3 : Hid (Below w.heap.size w w3) := Lib.hid (HB2.out.trans (hb.mono (by omega)))
  have hsz3 : w.heap.size + 1 < w3.heap.size := by have := hb.size; omega
  clear hp hb BM2 BO2 qk2
  generalize mpParts k = l at *
  generalize putTo ⟨k, m2, m3, m4, m5, m6, m7⟩ l k = pt at *
  go_wp2_with fail
  go_loopw [5, 27] (fun t c wr => ∃ i : Nat, i ≤ l.length ∧ t = .string (pt i) ∧ (pt i).size ≤ 1 + 1007 * i ∧ c = .int .i64 i ∧ Below w3.heap.size w3 wr) (fun _ c _ => l.length - (intOf c).toNat)
  case atStart => exact ⟨0, by omega, by rw [HP0.out], by rw [HP0.out, HB1Z.out]; omega, rfl, Below.refl _ _⟩
  case round =>
    obtain ⟨i, hi, rfl, hpz, rfl, hb⟩ := hrel
    have hp := HP.out.below hb (Nat.le_refl _)
    have KM := Lib.hid (BM3.out.below hb (by omega))
    have KO := Lib.hid (BO3.out.below hb (by omega))
    have HB := Lib.hid hb
    have hszr := hb.size
    clear hb
    by_cases hlt : i < l.length
    · have hlt' : (i : Int) < l.length := by omega
      have hi0 : (0 : Int) ≤ i := by omega
      obtain ⟨hBb, vs, hvl, hvb, hpa⟩ := hp
      have qv := hvb.cell i
      rw [List.getElem?_toArray, List.getElem?_eq_getElem (by omega)] at qv
      have hpi := hpa i hlt (by omega)
      have HSX := Lib.hid (HPS.out i hlt)
      generalize vs[i]'(by omega) = v at *
      generalize hpl : l[i] = pp at *
      have HVB := hvb.lt
      generalize hpt : pt i = s at *
      clear hpl hvb hpa hvl hpt
      cases pp with
      | num f size =>
        obtain ⟨rfl, hf⟩ := hpi
        have HF := Lib.hid hf
        have hmeth := meth_num_put (.agg #[.func (.func (fieldFn f)) #[] #[], .int .i64 size])
        clear hf
        go_wp2_with (first | (refine wpList_load_blk rfl 65 _ rfl w.heap.size rfl 65 _ _ KM.out Tryz.underlying65 rfl (by kernel_rfl) ?_))
        refine (mpNumPut f size s ⟨k, m2, m3, m4, m5, m6, m7⟩ _ HF.out (by omega)).mono ?_
        rintro e w5 ⟨rfl, hb5⟩
        have HB5 := Lib.hid hb5
        clear hb5
        go_wp2_with fail
        go_roundw
        case rel =>
          refine ⟨i + 1, by omega, by rw [HSX.out]; rfl, ?_, by go_num, bnext HB.out HB5.out⟩
          rw [HSX.out]
          show (s ++ beB size _).size ≤ _
          rw [ByteArray.size_append, beB_size]
          have := HF.out.2.2.2
          omega
        case measure => simp [intOf]; omega
      | bytes bl =>
        obtain ⟨g, hBg, rfl, hgb, h0l, h32⟩ := hpi
        have hmeth := meth_bytes_put (.agg #[.slice (some ⟨g, 0, none⟩) bl.length bl.length])
        clear hgb h32 h0l
        go_wp2_with (first | (refine wpList_load_blk rfl 65 _ rfl w.heap.size rfl 65 _ _ KM.out Tryz.underlying65 rfl (by kernel_rfl) ?_))
        refine (mpBytesPut g bl.length s ⟨k, m2, m3, m4, m5, m6, m7⟩ _ (by omega) (by show m7.size ≤ _; omega)).mono ?_
        rintro e w5 ⟨rfl, hb5⟩
        have HB5 := Lib.hid hb5
        clear hb5
        go_wp2_with fail
        go_roundw
        case rel =>
          refine ⟨i + 1, by omega, by rw [HSX.out]; rfl, ?_, by go_num, bnext HB.out HB5.out⟩
          rw [HSX.out]
          show (s ++ m7).size ≤ _
          rw [ByteArray.size_append]
          omega
        case measure => simp [intOf]; omega
    · obtain rfl : i = l.length := by omega
      clear hp
      generalize hpt : pt l.length = s at *
      have HPL := Lib.hid hpt
      clear hpt
      go_wp2_with (first | (refine wpList_store_blk rfl 70 _ _ rfl (w.heap.size + 1) (OptV.cells ⟨46, s⟩) rfl rfl 70 _ KO.out rfl (by kernel_rfl) (oneO ⟨46, s⟩) ?_; intro w9 hk9 hg9))
      refine bodyPost_ret (results_cell_tmp rfl _ _ (w.heap.size + 1) 70 _ _ _ _ rfl rfl hk9 Tryz.underlying70 rfl (by kernel_rfl)) rfl ?_
      exact ⟨by rw [HPT.out]; rfl, (HB3.out.trans (HB.out.mono (by omega))).trans (below_grown hg9 (by omega) (by omega))⟩
end Go.Proofs.YtjboillkhhefaaaGreatDoor
