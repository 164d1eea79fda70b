/- The program's package forge: control. -/
import Derived.Test.YtjboillkhhefaaaGreatDoorMpe
import Derived.Test.YtjboillkhhefaaaGreatDoorKeysb
set_option linter.unusedVariables false
namespace Go.Proofs.YtjboillkhhefaaaGreatDoor
open Go.RowKit

/-- The control message that an option says. -/
def ctlCells (m : MultiV) : Array Value := #[.int .i64 m.num, .int .i64 (m.kind - 6), .int .i64 m.addr, .int .i64 m.prio]
def zeroC : Array Value := #[.int .i64 0, .int .i64 0, .int .i64 0, .int .i64 0]
def ctlOf (o : Option MultiV) : Value := .tuple #[.agg (match o with | some m => ctlCells m | none => zeroC), .bool o.isSome]
def firstC (l : List MultiV) : Option MultiV := l.find? (inKinds 7 10)
theorem firstC_at (l : List MultiV) (i : Nat) (h : i < l.length) (hn : firstC (l.take i) = none) :
    (inKinds 7 10 l[i] = true → firstC l = some l[i]) ∧ (inKinds 7 10 l[i] = false → firstC (l.take (i + 1)) = none) := by
  unfold firstC at *
  constructor
  · intro hi
    conv => lhs; rw [← List.take_append_drop i l, List.find?_append, hn, List.drop_eq_getElem_cons h, List.find?_cons, hi]
    rfl
  · intro hi
    rw [List.take_succ_eq_append_getElem h, List.find?_append, hn]
    simp [hi]
theorem one_cells (cs : Array Value) (h : ∀ v ∈ cs.toList, v.oneCell' = true) : ∀ v ∈ cs.toList, v.oneCell' = true := h
theorem oneC (a b c d : Int) : ∀ v ∈ (#[.int .i64 a, .int .i64 b, .int .i64 c, .int .i64 d] : Array Value).toList, v.oneCell' = true := by
  intro v hv
  simp at hv
  rcases hv with rfl | rfl | rfl | rfl <;> rfl
theorem inKinds_710 (m : MultiV) : (inKinds 7 10 m = true ∧ (m.kind = 7 ∨ m.kind = 8 ∨ m.kind = 9 ∨ m.kind = 10)) ∨ (inKinds 7 10 m = false ∧ m.kind ≠ 7 ∧ m.kind ≠ 8 ∧ m.kind ≠ 9 ∧ m.kind ≠ 10) := by
  unfold inKinds
  by_cases h : 7 ≤ m.kind ∧ m.kind ≤ 10
  · exact .inl ⟨by simp [h.1, h.2], by omega⟩
  · refine .inr ⟨?_, by omega⟩
    by_cases h1 : 7 ≤ m.kind
    · simp [h1]; omega
    · simp [h1]

set_option maxRecDepth 100000 in
set_option maxHeartbeats 4000000 in
theorem forgeControl (B : Nat) (l : List MultiV) (v : Value) (w : World) (hB : B ≤ w.heap.size) (hl : l.length ≤ 1000) (hv : MultisAt B w v l) :
    Calls Tryz.prog 32 #[v] w fun e w' => e = .returned (ctlOf (firstC l)) ∧ Below w.heap.size w w' := by
  rcases hv.form with ⟨rfl, rfl⟩ | ⟨g, cap, rfl, hBg, hgl, hcap⟩
  · have HI : Hid (ctlOf (firstC []) = .tuple #[.agg zeroC, .bool false]) := rfl
    go_enter Tryz.func32, Tryz.ntmps32
    go_wp2_with fail
    go_loopw [9] (fun c wr => c = .int .i64 0 ∧ wr = w.alloc (.cells zeroC 80)) (fun _ _ => 0)
    case atStart => exact ⟨rfl, rfl⟩
    case round =>
      obtain ⟨rfl, rfl⟩ := hrel
      go_wp2_with (first | (refine wpList_store_blk rfl 80 _ _ rfl w.heap.size zeroC rfl rfl 80 _ (Blk.new w zeroC _) rfl (by kernel_rfl) (oneC 0 0 0 0) ?_; intro w9 hk9 hg9))
      refine bodyPost_ret (v := .tuple #[.agg zeroC, .bool false]) ?_ rfl ?_
      · exact results_cell_tmp rfl _ _ w.heap.size 80 _ _ _ _ rfl rfl hk9 Tryz.underlying80 rfl (by kernel_rfl)
      · exact ⟨by rw [HI.out], ((Below.refl _ _).alloc (Nat.le_refl _) _).trans (below_grown hg9 (by omega) (by simp))⟩
  · have HV := Lib.hid hv
    clear hv
    have hn0 : firstC (l.take 0) = none := rfl
    have HN0 := Lib.hid hn0
    clear hn0
    go_enter Tryz.func32, Tryz.ntmps32
    go_wp2_with fail
    go_loopw [9] (fun c wr => ∃ i : Nat, i ≤ l.length ∧ c = .int .i64 i ∧ firstC (l.take i) = none ∧ Blk wr w.heap.size zeroC 80 ∧ Below w.heap.size w wr) (fun c _ => l.length - (intOf c).toNat)
    case atStart => exact ⟨0, by omega, rfl, HN0.out, Blk.new w _ _, (Below.refl _ _).alloc (Nat.le_refl _) _⟩
    case round =>
      obtain ⟨i, hi, rfl, hn, k0, hb⟩ := hrel
      have HN := Lib.hid hn
      have K0 := Lib.hid k0
      have hk0 := k0.lt
      clear hn k0
      by_cases hlt : i < l.length
      · have hlt' : (i : Int) < l.length := by omega
        have hlt2 : (i : Int) < cap := by omega
        have hi0 : (0 : Int) ≤ i := by omega
        have q : ∀ j, j < 7 → wr.cell? ⟨g, i * 7 + j, none⟩ = l[i].cells[j]? := fun j hj => (hb.cell (p := ⟨g, _, none⟩) hgl).trans (HV.out.cell i j hlt hj)
        have q0 := q 0 (by omega)
        have q1 := q 1 (by omega)
        have q2 := q 2 (by omega)
        have q3 := q 3 (by omega)
        have q4 := q 4 (by omega)
        have q5 := q 5 (by omega)
        have q6 := q 6 (by omega)
        have HAT := Lib.hid (firstC_at l i hlt HN.out)
        generalize hm : l[i] = m at *
        have hK := inKinds_710 m
        obtain ⟨m1, m2, m3, m4, m5, m6, m7⟩ := m
        simp [MultiV.cells] at q0 q1 q2 q3 q4 q5 q6
        have HB := Lib.hid hb
        have hsz := hb.size
        clear q hm hb
        rcases hK with ⟨hin, hk⟩ | ⟨hin, h7, h8, h9, h10⟩
        · have HF := Lib.hid (HAT.out.1 hin)
          dsimp only at hk
          clear hin HAT
          rcases hk with rfl | rfl | rfl | rfl
          all_goals
            go_wp2_with (first | (refine wpList_load_blk rfl 80 _ rfl (wr.heap.size + 1) rfl 80 _ _ (Blk.new2 wr _ _ _) Tryz.underlying80 rfl (by kernel_rfl) ?_) | (refine wpList_store_blk rfl 80 _ _ rfl w.heap.size #[.int .i64 m4, .int .i64 _, .int .i64 m2, .int .i64 m3] rfl rfl 80 _ ((K0.out.alloc _).alloc _) rfl (by kernel_rfl) (oneC _ _ _ _) ?_; intro w9 hk9 hg9))
            refine bodyPost_ret (results_cell_tmp rfl _ _ w.heap.size 80 _ _ _ (.bool true) rfl rfl hk9 Tryz.underlying80 rfl (by kernel_rfl)) rfl ?_
            · exact ⟨by rw [HF.out]; rfl, ((HB.out.alloc HB.out.size _).alloc (by simp; omega) _).trans (below_grown hg9 (by omega) (by simp; omega))⟩
        · have HF := Lib.hid (HAT.out.2 hin)
          have e7 : (m1 == 7) = false := by simpa using h7
          have e8 : (m1 == 8) = false := by simpa using h8
          have e9 : (m1 == 9) = false := by simpa using h9
          have e10 : (m1 == 10) = false := by simpa using h10
          clear hin h7 h8 h9 h10 HAT
          go_wp2_with fail
          go_roundw
          case rel => exact ⟨i + 1, by omega, by go_num, HF.out, (K0.out.alloc _).alloc _, (HB.out.alloc HB.out.size _).alloc (by simp; omega) _⟩
          case measure => simp [intOf]; omega
      · obtain rfl : i = l.length := by omega
        have HF : Hid (firstC l = none) := Lib.hid (by have h := HN.out; rwa [List.take_length] at h)
        go_wp2_with (first | (refine wpList_store_blk rfl 80 _ _ rfl w.heap.size zeroC rfl rfl 80 _ K0.out rfl (by kernel_rfl) (oneC 0 0 0 0) ?_; intro w9 hk9 hg9))
        refine bodyPost_ret (v := .tuple #[.agg zeroC, .bool false]) ?_ rfl ?_
        · exact results_cell_tmp rfl _ _ w.heap.size 80 _ _ _ _ rfl rfl hk9 Tryz.underlying80 rfl (by kernel_rfl)
        · exact ⟨by rw [HF.out]; rfl, hb.trans (below_grown hg9 (by omega) hb.size)⟩
end Go.Proofs.YtjboillkhhefaaaGreatDoor
