/- The program's package mpopt: spare, Check, Put, at what may be said. -/
import Derived.Test.YtjboillkhhefaaaGreatDoorMpg
import Derived.Laws.EntriesVeiled
set_option linter.unusedVariables false
namespace Go.Proofs.YtjboillkhhefaaaGreatDoor
open Go.RowKit

def spareP (m : MultiV) : PartV → MultiV
  | .num f _ => m.set f 0
  | .bytes _ => { m with bytes := ⟨#[]⟩ }
def spareTo (l : List PartV) (m : MultiV) (k : Nat) : MultiV := (l.take k).foldl spareP { m with kind := 0 }
theorem spareTo_succ (l : List PartV) (m : MultiV) (k : Nat) (h : k < l.length) : spareTo l m (k + 1) = spareP (spareTo l m k) l[k] := by
  unfold spareTo
  rw [List.take_succ_eq_append_getElem h, List.foldl_append]
  rfl

theorem PartAt.below {B C : Nat} {w w' : World} {v : Value} {p : PartV} (h : PartAt B w v p) (hb : Below C w w') (hC : w.heap.size ≤ C) : PartAt B w' v p := by
  cases p with
  | num f size => exact h
  | bytes l =>
    obtain ⟨g, hB, rfl, hg, h0, h1⟩ := h
    exact ⟨g, hB, rfl, hg.below hb (Nat.lt_of_lt_of_le hg.lt hC), h0, h1⟩
theorem PartsIn.below {B C : Nat} {w w' : World} {b : Nat} {l : List PartV} (h : PartsIn B w b l) (hb : Below C w w') (hC : w.heap.size ≤ C) : PartsIn B w' b l := by
  obtain ⟨hB, vs, h1, h2, h3⟩ := h
  exact ⟨hB, vs, h1, h2.below hb (Nat.lt_of_lt_of_le h2.lt hC), fun i h h' => (h3 i h h').below hb hC⟩
theorem asNum (v : Value) (w : World) : (Instr.typeAssert (.iface 241 v) 182 241 true).run Tryz.prog w = .ok (.tuple #[v, .bool true]) w := by kernel_rfl
theorem asBytes (v : Value) (w : World) : (Instr.typeAssert (.iface 243 v) 182 243 true).run Tryz.prog w = .ok (.tuple #[v, .bool true]) w := by kernel_rfl
theorem asNum_no (v : Value) (w : World) : (Instr.typeAssert (.iface 243 v) 182 241 true).run Tryz.prog w = .ok (.tuple #[.agg #[.nilFunc, .int .i64 0], .bool false]) w := by kernel_rfl
set_option maxRecDepth 100000 in
set_option maxHeartbeats 1000000 in
theorem mpSpare (B b : Nat) (l : List PartV) (m : MultiV) (w : World) (hB : B ≤ w.heap.size) (hl : l.length ≤ 3) (hp : PartsIn B w b l) (sp : Nat → MultiV) (hsp : sp = spareTo l m) :
    Calls Tryz.prog 148 #[.agg m.cells, .slice (some ⟨b, 0, none⟩) l.length l.length] w fun e w' => e = .returned (.agg (sp l.length).cells) ∧ Below w.heap.size w w' := by
  have HP := Lib.hid hp
  have HS := Lib.hid (spareTo_succ l m)
  have HS0 : Hid (spareTo l m 0 = { m with kind := 0 }) := rfl
  clear hp
  rw [← hsp] at HS HS0
  clear hsp
  obtain ⟨m1, m2, m3, m4, m5, m6, m7⟩ := m
  simp only [MultiV.cells]
  go_enter Tryz.func148, Tryz.ntmps148
  go_wp2_with fail
  go_loopw [12] (fun c wr => ∃ i : Nat, i ≤ l.length ∧ c = .int .i64 i ∧ Blk wr w.heap.size (sp i).cells 65 ∧ Blk wr (w.heap.size + 1) zeroM.cells 65 ∧ Below w.heap.size w wr) (fun c _ => l.length - (intOf c).toNat)
  case atStart =>
    refine ⟨0, by omega, rfl, ?_, ?_, ?_⟩
    · rw [HS0.out]
      exact (Blk.new w (MultiV.cells ⟨0, m2, m3, m4, m5, m6, m7⟩) _).alloc _
    · exact Blk.new2 w _ zeroM.cells _
    · exact ((Below.refl _ _).alloc (Nat.le_refl _) _).alloc (by simp) _
  case round =>
    obtain ⟨i, hi, rfl, km, k1, hb⟩ := hrel
    have hp := HP.out.below hb (Nat.le_refl _)
    have hsz := k1.lt
    have hsz' : w.heap.size < wr.heap.size := by omega
    by_cases hlt : i < l.length
    · have hlt' : (i : Int) < l.length := by omega
      have hi0 : (0 : Int) ≤ i := by omega
      obtain ⟨hBb, vs, hvl, hvb, hpa⟩ := hp
      have qv := hvb.cell i
      rw [List.getElem?_toArray, List.getElem?_eq_getElem (by omega)] at qv
      have hpi := hpa i hlt (by omega)
      have HSX := Lib.hid (HS.out i hlt)
      generalize vs[i]'(by omega) = v at *
      generalize hpl : l[i] = pt at *
      have HVB := hvb.lt
      have KM := Lib.hid km
      have K1 := Lib.hid k1
      have HB := Lib.hid hb
      generalize sp i = mi at *
      clear hpl km k1 hb hvb hpa hvl
      cases pt with
      | num f size =>
        obtain ⟨rfl, hf⟩ := hpi
        have eF := fieldFn_enters f hf.1 hf.2.1
        have HF := Lib.hid hf
        have aN := asNum (.agg #[.func (.func (fieldFn f)) #[] #[], .int .i64 size])
        have qm := KM.out.cell f
        have zm := KM.out.frozen f
        rw [MultiV.get_cells mi f hf.1 hf.2.1] at qm
        clear hf
        go_wp2_with (first | (refine (mpField f w.heap.size _ HF.out.1 HF.out.2.1).mono ?_; rintro e w5 ⟨rfl, rfl⟩))
        go_roundw
        case rel =>
          refine ⟨i + 1, by omega, by go_num, ?_, (K1.out.setOther (by simp) _).alloc _, (HB.out.setCell (by simp) _).alloc (by simp [World.setCell]; exact HB.out.size) _⟩
          rw [HSX.out]
          show Blk _ _ (mi.set f 0).cells _
          rw [← MultiV.set_cells mi f 0 HF.out.1 HF.out.2.1]
          exact (KM.out.setCell f _).alloc _
        case measure => simp [intOf]; omega
      | bytes bl =>
        obtain ⟨g, hBg, rfl, hgb, h0l, h32⟩ := hpi
        have aN := asNum_no (.agg #[.slice (some ⟨g, 0, none⟩) bl.length bl.length])
        have aB := asBytes (.agg #[.slice (some ⟨g, 0, none⟩) bl.length bl.length])
        have qm := KM.out.cell 6
        have zm := KM.out.frozen 6
        rw [show mi.cells[6]? = some (.string mi.bytes) from rfl] at qm
        clear hgb h0l h32
        go_wp2_with fail
        go_roundw
        case rel =>
          refine ⟨i + 1, by omega, by go_num, ?_, (K1.out.setOther (by simp) _).alloc _, (HB.out.setCell (by simp) _).alloc (by simp [World.setCell]; exact HB.out.size) _⟩
          rw [HSX.out]
          exact (KM.out.setCell 6 (.string ⟨#[]⟩)).alloc _
        case measure => simp [intOf]; omega
    · obtain rfl : i = l.length := by omega
      have KM := Lib.hid km
      have K1 := Lib.hid k1
      have HSP : Hid (sp l.length = sp l.length) := rfl
      clear km k1 hp
      generalize hmi : sp l.length = mi at *
      have HMI := Lib.hid hmi
      clear hmi HSP
      go_wp2_with (first | (refine wpList_load_blk rfl 65 _ rfl w.heap.size rfl 65 _ _ KM.out Tryz.underlying65 rfl (by kernel_rfl) ?_) | (refine wpList_store_blk rfl 65 _ _ rfl (w.heap.size + 1) mi.cells rfl rfl 65 _ K1.out rfl (by kernel_rfl) (oneM mi) ?_; intro w9 hk9 hg9))
      refine bodyPost_ret (results_cell_row rfl _ _ (w.heap.size + 1) 65 _ _ _ rfl hk9 Tryz.underlying65 rfl (by kernel_rfl)) rfl ?_
      exact ⟨by rw [HMI.out]; rfl, hb.trans (below_grown hg9 (by omega) hb.size)⟩
end Go.Proofs.YtjboillkhhefaaaGreatDoor
