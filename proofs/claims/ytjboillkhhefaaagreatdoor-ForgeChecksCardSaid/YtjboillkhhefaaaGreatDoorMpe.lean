/- The program's mpopt.Find, forge.control; the reference's first. -/
import Derived.Test.YtjboillkhhefaaaGreatDoorMpd
set_option linter.unusedVariables false
namespace Go.Proofs.YtjboillkhhefaaaGreatDoor
open Go.RowKit

theorem TellsKind.is (c : Nat) (kind : Int) : TellsKind 73 c kind := ⟨fun _ _ => by kernel_rfl, fun m w hc => mpIs c kind m w hc⟩
def multiOf (o : Option MultiV) : Value := .tuple #[.agg (o.getD zeroM).cells, .bool o.isSome]

set_option maxRecDepth 100000 in
set_option maxHeartbeats 1000000 in
theorem mpFind (l : List OptV) (kind : Int) (v : Value) (w : World) (hl : l.length ≤ 1000) (hv : OptsAt w v l) (hs : ∀ o ∈ l, o.value.size ≤ 1099511627776) :
    Calls Tryz.prog 34 #[v, .int .i64 kind] w fun e w' => e = .returned (multiOf (firstM (allM l) kind)) ∧ Below w.heap.size w w' := by
  have HV := Lib.hid hv
  have HS := Lib.hid hs
  clear hv hs
  have hle : (allM l).length ≤ 1000 := Nat.le_trans (allM_le l) hl
  go_enter Tryz.func34, Tryz.ntmps34
  go_wp2_with fail
  have hb0 : Below w.heap.size w ((w.alloc (.cells #[.int .i64 kind] 3)).alloc (.cells zeroM.cells 65)) := ((Below.refl _ _).alloc (Nat.le_refl _) _).alloc (by simp) _
  refine (mpAll l v _ hl (HV.out.below hb0 (Nat.le_refl _)) HS.out).mono ?_
  rintro e w1 ⟨v1, rfl, hm1, hb1⟩
  have hc1 : w1.cell? ⟨w.heap.size, 0, none⟩ = some (.int .i64 kind) := by
    rw [((Blk.new w #[.int .i64 kind] 3).alloc (.cells zeroM.cells 65) |>.below hb1 (by simp; omega)).cell 0]; rfl
  have K1 := Lib.hid ((Blk.new2 w (.cells #[.int .i64 kind] 3) zeroM.cells 65).below hb1 (by simp))
  have HB1 : Hid (Below w.heap.size w w1) := Lib.hid (hb0.trans (hb1.mono (by simp; omega)))
  have hsz1 : w.heap.size + 1 + 1 ≤ w1.heap.size := by have := hb1.size; simp at this; omega
  have hm1' : MultisAt (w.heap.size + 1 + 1) w1 v1 (allM l) := by
    have e : ((w.alloc (.cells #[.int .i64 kind] 3)).alloc (.cells zeroM.cells 65)).heap.size = w.heap.size + 1 + 1 := by simp
    rw [e] at hm1
    exact hm1
  have HM1 := Lib.hid hm1'
  have HC1 := Lib.hid hc1
  clear hm1 hm1' hb1 hb0 hc1
  have HIR := Lib.hid (idxM_range (allM l) kind)
  have HIS := Lib.hid (idxM_some (allM l) kind)
  have HIN := Lib.hid (idxM_neg (allM l) kind)
  generalize hms : allM l = ms at *
  have HMS := Lib.hid hms
  clear hms
  go_wp2_with fail
  refine (mpIndex (w.heap.size + 1 + 1) w.heap.size _ kind ms v1 w1 hsz1 hle HM1.out (TellsKind.is _ _) HC1.out).mono ?_
  rintro e w2 ⟨rfl, hb2⟩
  have HB2 := Lib.hid hb2
  have hsz2 := hb2.size
  have K2 := Lib.hid (K1.out.below hb2 (by omega))
  have HM2 : Hid (MultisAt (w.heap.size + 1 + 1) w2 v1 ms) := Lib.hid (HM1.out.touch (Touch.of_below hb2 (fun _ => False)) (by simp))
  clear hb2
  generalize idxM ms kind = x at *
  by_cases hx : x < 0
  · have HF := Lib.hid (HIN.out hx)
    go_wp2_with (first | (refine wpList_store_blk rfl 65 _ _ rfl (w.heap.size + 1) zeroM.cells rfl rfl 65 _ K2.out rfl (by kernel_rfl) (oneM zeroM) ?_; intro w9 hk9 hg9))
    refine bodyPost_ret (v := .tuple #[.agg zeroM.cells, .bool false]) ?_ rfl ?_
    · exact results_cell_tmp rfl _ _ (w.heap.size + 1) 65 _ _ _ _ rfl rfl hk9 Tryz.underlying65 rfl (by kernel_rfl)
    · exact ⟨by rw [HMS.out, HF.out]; rfl, (bnext HB1.out HB2.out).trans (below_grown hg9 (by omega) (bnext HB1.out HB2.out).size)⟩
  · obtain ⟨n, rfl⟩ : ∃ n : Nat, x = n := ⟨x.toNat, by omega⟩
    obtain ⟨hn, hf⟩ := HIS.out (by omega)
    simp only [Int.toNat_natCast] at hn hf
    have HF := Lib.hid hf
    rcases HM2.out.form with ⟨rfl, rfl⟩ | ⟨g, cap, rfl, hBg, hgl, hcap⟩
    · simp at hn
    · have hn1 : (n : Int) < ms.length := by omega
      have hn0 : (0 : Int) ≤ n := by omega
      have q0 := HM2.out.cell n 0 hn (by omega)
      have q1 := HM2.out.cell n 1 hn (by omega)
      have q2 := HM2.out.cell n 2 hn (by omega)
      have q3 := HM2.out.cell n 3 hn (by omega)
      have q4 := HM2.out.cell n 4 hn (by omega)
      have q5 := HM2.out.cell n 5 hn (by omega)
      have q6 := HM2.out.cell n 6 hn (by omega)
      generalize ms[n] = m at *
      obtain ⟨m1, m2, m3, m4, m5, m6, m7⟩ := m
      simp [MultiV.cells] at q0 q1 q2 q3 q4 q5 q6
      clear hf
      go_wp2_with (first | (refine wpList_store_blk rfl 65 _ _ rfl (w.heap.size + 1) (MultiV.cells ⟨m1, m2, m3, m4, m5, m6, m7⟩) rfl rfl 65 _ K2.out rfl (by kernel_rfl) (oneM ⟨m1, m2, m3, m4, m5, m6, m7⟩) ?_; intro w9 hk9 hg9))
      refine bodyPost_ret (v := .tuple #[.agg (MultiV.cells ⟨m1, m2, m3, m4, m5, m6, m7⟩), .bool true]) ?_ rfl ?_
      · exact results_cell_tmp rfl _ _ (w.heap.size + 1) 65 _ _ _ _ rfl rfl hk9 Tryz.underlying65 rfl (by kernel_rfl)
      · exact ⟨by rw [HMS.out, HF.out]; rfl, (bnext HB1.out HB2.out).trans (below_grown hg9 (by omega) (bnext HB1.out HB2.out).size)⟩

/-- The first of kinds from a to b. -/
def inKinds (a b : Int) (m : MultiV) : Bool := decide (a ≤ m.kind) && decide (m.kind ≤ b)
def firstR (l : List MultiV) (a b : Int) : Option MultiV := l.find? (inKinds a b)
theorem firstR_one (l : List MultiV) (k : Int) : firstR l k k = firstM l k := by
  unfold firstR firstM
  congr 1
  funext m
  unfold inKinds
  rw [Bool.eq_iff_iff]
  simp
  omega
theorem allM_cons_take (l : List OptV) (i : Nat) (h : i < l.length) (a b : Int) (hn : firstR (allM (l.take i)) a b = none) :
    firstR (allM (l.take (i + 1))) a b = if (getM l[i]).1 = 0 ∧ inKinds a b (getM l[i]).2 = true then some (getM l[i]).2 else none := by
  rw [allM_succ l i h]
  unfold firstR at *
  by_cases h1 : (getM l[i]).1 = 0
  · rw [if_pos h1, List.find?_append, hn]
    by_cases h2 : inKinds a b (getM l[i]).2 = true
    · simp [h1, h2]
    · simp only [Bool.not_eq_true] at h2; simp [h1, h2]
  · rw [if_neg h1, hn, if_neg (fun h => h1 h.1)]
theorem firstR_more (l : List OptV) (i : Nat) (a b : Int) (m : MultiV) (h : firstR (allM (l.take i)) a b = some m) : firstR (allM l) a b = some m := by
  have e : allM l = allM (l.take i) ++ allM (l.drop i) := by
    unfold allM
    rw [← List.filterMap_append, List.take_append_drop]
  rw [e]
  unfold firstR at *
  rw [List.find?_append, h]
  rfl

set_option maxRecDepth 100000 in
set_option maxHeartbeats 4000000 in
theorem refFirst (l : List OptV) (a b : Int) (v : Value) (w : World) (hl : l.length ≤ 1000) (hv : OptsAt w v l) (hs : ∀ o ∈ l, o.value.size ≤ 1099511627776) :
    Calls Tryz.prog 29 #[v, .int .i64 a, .int .i64 b] w fun e w' => e = .returned (multiOf (firstR (allM l) a b)) ∧ Below w.heap.size w w' := by
  obtain ⟨p, cap, rfl, hcap, hx⟩ := hv
  have HX := Lib.hid hx
  have HS := Lib.hid hs
  clear hx hs
  go_enter Tryz.func29, Tryz.ntmps29
  go_wp2_with fail
  go_loopw [8] (fun c wr => ∃ i : Nat, i ≤ l.length ∧ c = .int .i64 i ∧ firstR (allM (l.take i)) a b = none ∧ Blk wr w.heap.size zeroM.cells 65 ∧ Below w.heap.size w wr) (fun c _ => l.length - (intOf c).toNat)
  case atStart => exact ⟨0, by omega, rfl, rfl, Blk.new w _ _, (Below.refl _ _).alloc (Nat.le_refl _) _⟩
  case round =>
    obtain ⟨i, hi', rfl, hn, k0, hb⟩ := hrel
    have HN := Lib.hid hn
    have K0 := Lib.hid k0
    have hk0 := k0.lt
    clear hn k0
    by_cases hlt : i < l.length
    · have hlt' : (i : Int) < l.length := by omega
      have hlt2 : (i : Int) < cap := by omega
      have hi0 : (0 : Int) ≤ i := by omega
      obtain ⟨bb, off, rfl, hbl, hx0, hx1⟩ := HX.out i hlt
      have q0 := (hb.cell (p := ⟨bb, off + i * 2, none⟩) hbl).trans hx0
      have q1 := (hb.cell (p := ⟨bb, off + i * 2 + 1, none⟩) hbl).trans hx1
      have hso := HS.out l[i] (List.getElem_mem hlt)
      have HAS := Lib.hid (allM_cons_take l i hlt a b HN.out)
      have HMO := Lib.hid (firstR_more l (i + 1) a b)
      generalize l[i] = o at *
      obtain ⟨kind, val⟩ := o
      dsimp only at q0 q1 hx0 hx1 hso
      have HB := Lib.hid hb
      clear hx0 hx1 hb
      go_wp2_with fail
      refine (refMGet ⟨kind, val⟩ _ hso).mono ?_
      rintro e w2 ⟨rfl, hb2⟩
      have HB2 := Lib.hid hb2
      have hsz2 := hb2.size
      have K2 := Lib.hid (K0.out.below hb2 hk0)
      clear hb2
      generalize (getM ⟨kind, val⟩).1 = E at *
      generalize (getM ⟨kind, val⟩).2 = m at *
      obtain ⟨m1, m2, m3, m4, m5, m6, m7⟩ := m
      simp only [MultiV.cells]
      by_cases hE : E = 0 ∧ inKinds a b ⟨m1, m2, m3, m4, m5, m6, m7⟩ = true
      · obtain ⟨rfl, hk⟩ := hE
        have HF := Lib.hid (HMO.out _ (HAS.out.trans (if_pos ⟨rfl, hk⟩)))
        have hk' : a ≤ m1 ∧ m1 ≤ b := by simpa [inKinds] using hk
        obtain ⟨hk1, hk2⟩ := hk'
        clear hk
        go_wp2_with (first | (refine wpList_load_blk rfl 65 _ rfl w2.heap.size rfl 65 (MultiV.cells ⟨m1, m2, m3, m4, m5, m6, m7⟩) _ (Blk.new w2 _ _) Tryz.underlying65 rfl (by kernel_rfl) ?_) | (refine wpList_store_blk rfl 65 _ _ rfl w.heap.size (MultiV.cells ⟨m1, m2, m3, m4, m5, m6, m7⟩) rfl rfl 65 _ (K2.out.alloc _) rfl (by kernel_rfl) (oneM ⟨m1, m2, m3, m4, m5, m6, m7⟩) ?_; intro w9 hk9 hg9))
        refine bodyPost_ret (v := .tuple #[.agg (MultiV.cells ⟨m1, m2, m3, m4, m5, m6, m7⟩), .bool true]) ?_ rfl ?_
        · exact results_cell_tmp rfl _ _ w.heap.size 65 _ _ _ _ rfl rfl hk9 Tryz.underlying65 rfl (by kernel_rfl)
        · exact ⟨by rw [HF.out]; rfl, ((bnext HB.out HB2.out).alloc (bnext HB.out HB2.out).size _).trans (below_grown hg9 (by omega) (by have := (bnext HB.out HB2.out).size; simp; omega))⟩
      · have HF := Lib.hid (HAS.out.trans (if_neg hE))
        have hcases : E ≠ 0 ∨ E = 0 ∧ ¬ a ≤ m1 ∨ E = 0 ∧ a ≤ m1 ∧ ¬ m1 ≤ b := by
          by_cases h1 : E = 0
          · by_cases h2 : a ≤ m1
            · by_cases h3 : m1 ≤ b
              · exact absurd ⟨h1, by simp [inKinds, h2, h3]⟩ hE
              · exact .inr (.inr ⟨h1, h2, h3⟩)
            · exact .inr (.inl ⟨h1, h2⟩)
          · exact .inl h1
        clear hE
        rcases hcases with h | ⟨rfl, h⟩ | ⟨rfl, h, h2⟩
        · have h' : (E == 0) = false := by rw [beq_eq_false_iff_ne]; exact h
          clear h
          go_wp2_with fail
          go_roundw
          case rel => exact ⟨i + 1, by omega, by go_num, HF.out, K2.out.alloc _, (bnext HB.out HB2.out).alloc (bnext HB.out HB2.out).size _⟩
          case measure => simp [intOf]; omega
        · have h' : decide (a ≤ m1) = false := by simpa using h
          go_wp2_with fail
          go_roundw
          case rel => exact ⟨i + 1, by omega, by go_num, HF.out, K2.out.alloc _, (bnext HB.out HB2.out).alloc (bnext HB.out HB2.out).size _⟩
          case measure => simp [intOf]; omega
        · have h' : decide (m1 ≤ b) = false := by simpa using h2
          have h'' : decide (a ≤ m1) = true := by simpa using h
          go_wp2_with fail
          go_roundw
          case rel => exact ⟨i + 1, by omega, by go_num, HF.out, K2.out.alloc _, (bnext HB.out HB2.out).alloc (bnext HB.out HB2.out).size _⟩
          case measure => simp [intOf]; omega
    · obtain rfl : i = l.length := by omega
      have HF : Hid (firstR (allM l) a b = none) := Lib.hid (by have h := HN.out; rwa [List.take_length] at h)
      go_wp2_with (first | (refine wpList_store_blk rfl 65 _ _ rfl w.heap.size zeroM.cells rfl rfl 65 _ K0.out rfl (by kernel_rfl) (oneM zeroM) ?_; intro w9 hk9 hg9))
      refine bodyPost_ret (v := .tuple #[.agg zeroM.cells, .bool false]) ?_ rfl ?_
      · exact results_cell_tmp rfl _ _ w.heap.size 65 _ _ _ _ rfl rfl hk9 Tryz.underlying65 rfl (by kernel_rfl)
      · exact ⟨by rw [HF.out]; rfl, hb.trans (below_grown hg9 (by omega) hb.size)⟩
end Go.Proofs.YtjboillkhhefaaaGreatDoor
