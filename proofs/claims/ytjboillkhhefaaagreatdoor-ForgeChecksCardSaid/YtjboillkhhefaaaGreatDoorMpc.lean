/- The program's package mpopt: All. -/
import Derived.Test.YtjboillkhhefaaaGreatDoorMpb
set_option linter.unusedVariables false
namespace Go.Proofs.YtjboillkhhefaaaGreatDoor
open Go.RowKit

/-- Options, as a slice shows them. -/
def OptsAt (w : World) (v : Value) (l : List OptV) : Prop :=
  ∃ p cap, v = .slice p l.length cap ∧ l.length ≤ cap ∧ ∀ i (h : i < l.length), ∃ b off, p = some ⟨b, off, none⟩ ∧ b < w.heap.size ∧ w.cell? ⟨b, off + i * 2, none⟩ = some (.int .i64 l[i].kind) ∧ w.cell? ⟨b, off + i * 2 + 1, none⟩ = some (.string l[i].value)
theorem OptsAt.below {B : Nat} {w w' : World} {v : Value} {l : List OptV} (h : OptsAt w v l) (hb : Below B w w') (hB : w.heap.size ≤ B) : OptsAt w' v l := by
  obtain ⟨p, cap, hv, hc, h⟩ := h
  refine ⟨p, cap, hv, hc, fun i hi => ?_⟩
  obtain ⟨b, off, hp, hl, h0, h1⟩ := h i hi
  exact ⟨b, off, hp, Nat.lt_of_lt_of_le hl hb.size, (hb.cell (p := ⟨b, _, none⟩) (Nat.lt_of_lt_of_le hl hB)).trans h0, (hb.cell (p := ⟨b, _, none⟩) (Nat.lt_of_lt_of_le hl hB)).trans h1⟩
/-- Options of several paths that a call has made, as a slice shows them: from block B on. -/
def MultisAt (B : Nat) (w : World) (v : Value) (l : List MultiV) : Prop := w.ownsRow B 65 7 v l.length (l.flatMap fun m => m.cells.toList)
theorem flat7 (l : List MultiV) (i j : Nat) (h : i < l.length) (hj : j < 7) : (l.flatMap fun m => m.cells.toList)[i * 7 + j]? = l[i].cells[j]? := by
  induction l generalizing i with
  | nil => simp at h
  | cons a l ih =>
    rw [List.flatMap_cons]
    have hl : a.cells.toList.length = 7 := rfl
    cases i with
    | zero =>
      rw [List.getElem?_append_left (by omega)]
      simp
    | succ i =>
      rw [List.getElem?_append_right (by omega), hl, show (i + 1) * 7 + j - 7 = i * 7 + j by omega]
      exact ih i (by simpa using h)
theorem MultisAt.cell {B : Nat} {w : World} {g n c : Nat} {l : List MultiV} (h : MultisAt B w (.slice (some ⟨g, 0, none⟩) n c) l) (i j : Nat) (hi : i < l.length) (hj : j < 7) : w.cell? ⟨g, i * 7 + j, none⟩ = l[i].cells[j]? := by
  have h1 := flat7 l i j hi hj
  obtain ⟨u, hu⟩ : ∃ u, l[i].cells[j]? = some u := ⟨l[i].cells[j]'(by show j < 7; exact hj), by rw [Array.getElem?_eq_getElem]⟩
  rw [hu] at h1 ⊢
  have h2 := World.ownsRow.cells h (g := g) rfl (i * 7 + j) u h1
  have hadd : (⟨g, 0, none⟩ : Addr).add (i * 7 + j) = ⟨g, i * 7 + j, none⟩ := by unfold Addr.add; split <;> simp_all
  rwa [hadd] at h2
theorem MultisAt.form {B : Nat} {w : World} {v : Value} {l : List MultiV} (h : MultisAt B w v l) : (v = .slice none 0 0 ∧ l = []) ∨ ∃ g cap, v = .slice (some ⟨g, 0, none⟩) l.length cap ∧ B ≤ g ∧ g < w.heap.size ∧ l.length ≤ cap := by
  rcases h.2 with ⟨h1, h2⟩ | ⟨g, cap, cur, h1, h2, h3, h4, _⟩
  · exact .inl ⟨h1, List.length_eq_zero_iff.1 h2⟩
  · exact .inr ⟨g, cap, h1, h2, (Array.getElem?_eq_some_iff.1 h3).1, h4⟩
theorem MultisAt.touch {B : Nat} {w w' : World} {v : Value} {l : List MultiV} (h : MultisAt B w v l) {S : Nat → Prop} (ht : Touch w w' S) (hS : ∀ k, B ≤ k → ¬ S k) : MultisAt B w' v l := by
  refine ⟨h.1, ?_⟩
  rcases h.2 with h1 | ⟨g, cap, cur, h1, h2, h3, h4⟩
  · exact .inl h1
  · exact .inr ⟨g, cap, cur, h1, h2, by rw [ht.block g (Array.getElem?_eq_some_iff.1 h3).1 (hS g h2)]; exact h3, h4⟩
/-- Those of options that can be read. -/
def allM (l : List OptV) : List MultiV := l.filterMap fun o => if (getM o).1 = 0 then some (getM o).2 else none
theorem allM_succ (l : List OptV) (k : Nat) (h : k < l.length) : allM (l.take (k + 1)) = if (getM l[k]).1 = 0 then allM (l.take k) ++ [(getM l[k]).2] else allM (l.take k) := by
  unfold allM
  rw [List.take_succ_eq_append_getElem h, List.filterMap_append]
  by_cases h1 : (getM l[k]).1 = 0 <;> simp [h1]
theorem allM_le (l : List OptV) : (allM l).length ≤ l.length := List.length_filterMap_le _ _
theorem info_multi : (Tryz.prog.info? 65).map (fun i => (i.zero, i.size, i.bytes)) = some (some (.agg zeroM.cells), 7, 64) := by kernel_rfl
def AllPost (w : World) (l : List OptV) (e : Ending) (w' : World) : Prop := ∃ v', e = .returned v' ∧ MultisAt w.heap.size w' v' (allM l) ∧ Below w.heap.size w w'

set_option maxRecDepth 100000 in
set_option maxHeartbeats 4000000 in
theorem mpAll (l : List OptV) (v : Value) (w : World) (hl : l.length ≤ 1000) (hv : OptsAt w v l) (hs : ∀ o ∈ l, o.value.size ≤ 1099511627776) :
    Calls Tryz.prog 33 #[v] w (AllPost w l) := by
  obtain ⟨ii, hi, hz0, hz1, hz2⟩ := info_parts info_multi
  obtain ⟨p, cap, rfl, hcap, hx⟩ := hv
  have HX := Lib.hid hx
  have HS := Lib.hid hs
  clear hx hs
  go_enter Tryz.func33, Tryz.ntmps33
  go_wp2_with fail
  go_loopw [3, 10] (fun u c wr => ∃ i : Nat, i ≤ l.length ∧ c = .int .i64 i ∧ MultisAt w.heap.size wr u (allM (l.take i)) ∧ Below w.heap.size w wr) (fun _ c _ => l.length - (intOf c).toNat)
  case atStart => exact ⟨0, by omega, rfl, World.ownsRow_nil _ _ _ _, Below.refl _ _⟩
  case round =>
    obtain ⟨i, hi', rfl, hm, hb⟩ := hrel
    by_cases hlt : i < l.length
    · have hlt' : (i : Int) < l.length := by omega
      have hlt2 : (i : Int) < cap := by omega
      have hi0 : (0 : Int) ≤ i := by omega
      obtain ⟨b, off, rfl, hbl, hx0, hx1⟩ := HX.out i hlt
      have q0 := (hb.cell (p := ⟨b, off + i * 2, none⟩) hbl).trans hx0
      have q1 := (hb.cell (p := ⟨b, off + i * 2 + 1, none⟩) hbl).trans hx1
      have hso := HS.out l[i] (List.getElem_mem hlt)
      have HAS := Lib.hid (allM_succ l i hlt)
      have hale : (allM (l.take i)).length ≤ 1000 := Nat.le_trans (allM_le _) (by rw [List.length_take]; omega)
      generalize l[i] = o at *
      obtain ⟨kind, val⟩ := o
      dsimp only at q0 q1 hx0 hx1 hso
      have HB := Lib.hid hb
      have HM := Lib.hid hm
      clear hx0 hx1 hb hm
      have hsz := HB.out.size
      go_wp2_with fail
      refine (mpGet ⟨kind, val⟩ _ hso).mono ?_
      rintro e w2 ⟨rfl, hb2⟩
      have HB2 := Lib.hid hb2
      have hsz2 : wr.heap.size + 1 ≤ w2.heap.size := by have := hb2.size; simpa using this
      have HT : Hid (Touch wr w2 (fun _ => False)) := Lib.hid (((Touch.refl wr _).alloc _).trans (Touch.of_below hb2 _))
      clear hb2
      by_cases hE : (getM ⟨kind, val⟩).1 = 0
      · have HA : Hid (allM (l.take (i + 1)) = allM (l.take i) ++ [(getM ⟨kind, val⟩).2]) := Lib.hid (by rw [HAS.out, if_pos hE])
        rw [hE]
        generalize (getM ⟨kind, val⟩).2 = m at *
        generalize allM (l.take i) = ms at *
        clear hE HAS
        obtain ⟨m1, m2, m3, m4, m5, m6, m7⟩ := m
        simp only [MultiV.cells]
        have HMA := Lib.hid (World.ownsRow.alloc (World.ownsRow.alloc (HM.out.touch HT.out (by simp)) (.cells (MultiV.cells ⟨m1, m2, m3, m4, m5, m6, m7⟩) 65)) (.cells (MultiV.cells ⟨m1, m2, m3, m4, m5, m6, m7⟩) 65))
        go_wp2_with (first | (at_builtin; refine wpList_append_lies _ rfl _ _ 83 rfl w.heap.size 65 ii _ 7 64 Tryz.underlying83 hi hz0 hz1 hz2 rfl (by omega) u3 ms.length _ rfl HMA.out ⟨w2.heap.size + 1, 0, none⟩ 1 1 (MultiV.cells ⟨m1, m2, m3, m4, m5, m6, m7⟩).toList rfl rfl (World.news_of_block (Blk.new2 w2 _ (MultiV.cells ⟨m1, m2, m3, m4, m5, m6, m7⟩) _)) (oneM ⟨m1, m2, m3, m4, m5, m6, m7⟩) (by omega) (by unfold maxLen; omega) (by omega) (by simp; omega) _ rfl ?_; intro g cap' w3 hown hgrow hat hgl; have HO := Lib.hid hown; have HGR := Lib.hid hgrow; clear hown hgrow hat))
        go_roundw
        case rel =>
          have hne : ∀ k, u3.ownBlock = some k → w.heap.size ≤ k := fun k hk => (World.ownsRow.lt HM.out k hk).1
          refine ⟨i + 1, by omega, by go_num, ?_, ?_⟩
          · rw [HA.out]
            unfold MultisAt
            rw [List.length_append, List.flatMap_append]
            simpa using HO.out
          · refine (HB.out.trans ((HT.out.below (Nat.le_refl _) (by simp)).mono hsz)).trans ?_
            exact Below.grown ((Below.refl _ _ |>.alloc (by omega) _).alloc (by simp; omega) _) HGR.out (by simp; omega) hne
        case measure => simp [intOf]; omega
      · have HA : Hid (allM (l.take (i + 1)) = allM (l.take i)) := Lib.hid (by rw [HAS.out, if_neg hE])
        generalize (getM ⟨kind, val⟩).2 = m at *
        generalize (getM ⟨kind, val⟩).1 = E at *
        have hE1 : (E == 0) = false := by rw [beq_eq_false_iff_ne]; exact hE
        clear hE HAS
        obtain ⟨m1, m2, m3, m4, m5, m6, m7⟩ := m
        simp only [MultiV.cells]
        go_wp2_with fail
        go_roundw
        case rel =>
          refine ⟨i + 1, by omega, by go_num, ?_, ?_⟩
          · rw [HA.out]
            exact World.ownsRow.alloc (HM.out.touch HT.out (by simp)) _
          · exact (HB.out.trans ((HT.out.below (Nat.le_refl _) (by simp)).mono hsz)).alloc (by omega) _
        case measure => simp [intOf]; omega
    · obtain rfl : i = l.length := by omega
      rw [List.take_length] at hm
      have HM := Lib.hid hm
      clear hm
      go_wp2_with fail
      go_ret
      exact ⟨_, rfl, HM.out, hb⟩
end Go.Proofs.YtjboillkhhefaaaGreatDoor
