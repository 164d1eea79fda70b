/- The program's package mpopt: Say, at what may be said. -/
import Derived.Test.YtjboillkhhefaaaGreatDoorOpa
import Derived.Lib.SliceRun
set_option linter.unusedVariables false
namespace Go.Proofs.YtjboillkhhefaaaGreatDoor
open Go.RowKit

/-- Options that a call has made, as a slice shows them: from block B on. -/
def OptRow (B : Nat) (w : World) (v : Value) (l : List OptV) : Prop := w.ownsRow B 70 2 v l.length (l.flatMap fun o => o.cells.toList)
theorem flat2 (l : List OptV) (i j : Nat) (h : i < l.length) (hj : j < 2) : (l.flatMap fun o => o.cells.toList)[i * 2 + j]? = l[i].cells[j]? := by
  induction l generalizing i with
  | nil => simp at h
  | cons a l ih =>
    rw [List.flatMap_cons]
    have hl : a.cells.toList.length = 2 := rfl
    cases i with
    | zero =>
      rw [List.getElem?_append_left (by omega)]
      simp
    | succ i =>
      rw [List.getElem?_append_right (by omega), hl, show (i + 1) * 2 + j - 2 = i * 2 + j by omega]
      exact ih i (by simpa using h)
theorem OptRow.opts {B : Nat} {w : World} {v : Value} {l : List OptV} (h : OptRow B w v l) : OptsAt w v l := by
  have h0 := h
  rcases h.2 with ⟨h1, h2⟩ | ⟨g, cap, cur, h1, h2, h3, h4, _⟩
  · obtain rfl := List.length_eq_zero_iff.1 h2
    exact ⟨none, 0, h1, by simp, fun i hi => absurd hi (by simp)⟩
  · subst h1
    refine ⟨some ⟨g, 0, none⟩, cap, rfl, h4, fun i hi => ⟨g, 0, rfl, (Array.getElem?_eq_some_iff.1 h3).1, ?_, ?_⟩⟩
    · have h5 := World.ownsRow.cells h0 (g := g) rfl (i * 2 + 0) (.int .i64 l[i].kind) (by rw [flat2 l i 0 hi (by omega)]; rfl)
      have hadd : (⟨g, 0, none⟩ : Addr).add (i * 2 + 0) = ⟨g, 0 + i * 2, none⟩ := by unfold Addr.add; split <;> simp_all
      rwa [hadd] at h5
    · have h5 := World.ownsRow.cells h0 (g := g) rfl (i * 2 + 1) (.string l[i].value) (by rw [flat2 l i 1 hi (by omega)]; rfl)
      have hadd : (⟨g, 0, none⟩ : Addr).add (i * 2 + 1) = ⟨g, 0 + i * 2 + 1, none⟩ := by unfold Addr.add; split <;> simp_all
      rwa [hadd] at h5
theorem info_opt : (Tryz.prog.info? 70).map (fun i => (i.zero, i.size, i.bytes)) = some (some (.agg #[.int .i64 0, .string ⟨#[]⟩]), 2, 24) := by kernel_rfl

theorem OptRow.kept {B : Nat} {w w' : World} {v : Value} {l : List OptV} (h : OptRow B w v l) (hb : Below w.heap.size w w') : OptRow B w' v l := by
  refine ⟨h.1, ?_⟩
  rcases h.2 with h1 | ⟨g, cap, cur, h1, h2, h3, h4⟩
  · exact .inl h1
  · exact .inr ⟨g, cap, cur, h1, h2, by rw [hb.block g (Array.getElem?_eq_some_iff.1 h3).1]; exact h3, h4⟩
set_option maxRecDepth 100000 in
set_option maxHeartbeats 400000 in
theorem cloneNil (w : World) : Calls Tryz.prog 53 #[.slice none 0 0] w fun e w' => e = .returned (.slice none 0 0) ∧ w' = w := by
  have qn := fun W => Lib.run_eql_slice_nil (P := Tryz.prog) W 23 70 none 0 0 0 0 Tryz.underlying23
  go_enter Tryz.func53, Tryz.ntmps53
  go_wp2_with fail
  go_ret
  exact ⟨rfl, rfl⟩

def sayTo (ms : List (MultiV × Nat)) (k : Nat) : List OptV := (ms.take k).map fun q => putM q.1 q.2
theorem sayTo_succ (ms : List (MultiV × Nat)) (k : Nat) (h : k < ms.length) : sayTo ms (k + 1) = sayTo ms k ++ [putM ms[k].1 ms[k].2] := by
  unfold sayTo
  rw [List.take_succ_eq_append_getElem h, List.map_append]
  rfl
theorem sayTo_length (ms : List (MultiV × Nat)) (k : Nat) (h : k ≤ ms.length) : (sayTo ms k).length = k := by
  unfold sayTo
  rw [List.length_map, List.length_take]
  omega
def SayPost (w : World) (ms : List (MultiV × Nat)) (e : Ending) (w' : World) : Prop := ∃ v, e = .returned (.tuple #[v, .int .i64 0]) ∧ OptRow w.heap.size w' v (ms.map fun q => putM q.1 q.2) ∧ Below w.heap.size w w'

set_option maxRecDepth 100000 in
set_option maxHeartbeats 1000000 in
theorem mpSay (B g cap : Nat) (ms : List (MultiV × Nat)) (w : World) (hl : ms.length ≤ 100) (hg : MultisAt B w (.slice (some ⟨g, 0, none⟩) ms.length cap) (ms.map Prod.fst)) (hgl : g < w.heap.size) (hcap : ms.length ≤ cap)
    (hm : ∀ i (h : i < ms.length), ValidM ms[i].1 ms[i].2 ∧ ms[i].2 < 256) (h46 : Opt46 (ms.map fun q => putM q.1 q.2)) (h400 : sizeTo (ms.map fun q => putM q.1 q.2) ms.length ≤ 400) :
    Calls Tryz.prog 25 #[.slice none 0 0, .slice (some ⟨g, 0, none⟩) ms.length cap] w (SayPost w ms) := by
  obtain ⟨ii, hi, hz0, hz1, hz2⟩ := info_parts info_opt
  have HG := Lib.hid hg
  have HM := Lib.hid hm
  have hlen : (ms.map fun q => putM q.1 q.2).length ≤ 1000 := by rw [List.length_map]; omega
  have h400' : sizeTo (ms.map fun q => putM q.1 q.2) (ms.map fun q => putM q.1 q.2).length ≤ 400 := by rw [List.length_map]; exact h400
  have HLEN := Lib.hid hlen
  have H46 := Lib.hid h46
  have H400 := Lib.hid h400'
  clear h400' hlen
  have HSS := Lib.hid (sayTo_succ ms)
  have HSL := Lib.hid (sayTo_length ms)
  have HSF : Hid (sayTo ms ms.length = ms.map fun q => putM q.1 q.2) := Lib.hid (by unfold sayTo; rw [List.take_length])
  have HS0 : Hid (sayTo ms 0 = []) := rfl
  clear hg hm h46 h400
  generalize sayTo ms = sy at *
  unfold SayPost
  generalize (ms.map fun q => putM q.1 q.2) = L at *
  go_enter Tryz.func25, Tryz.ntmps25
  go_wp2_with fail
  refine (cloneNil _).mono ?_
  rintro e w1 ⟨rfl, rfl⟩
  go_wp2_with fail
  go_loopw [6, 16] (fun u c wr => ∃ i : Nat, i ≤ ms.length ∧ c = .int .i64 i ∧ OptRow w1.heap.size wr u (sy i) ∧ Below w1.heap.size w1 wr) (fun _ c _ => ms.length - (intOf c).toNat)
  case atStart => exact ⟨0, by omega, rfl, by rw [HS0.out]; exact World.ownsRow_nil _ _ _ _, Below.refl _ _⟩
  case round =>
    obtain ⟨i, hi', rfl, hm, hb⟩ := hrel
    by_cases hlt : i < ms.length
    · have hlt' : (i : Int) < ms.length := by omega
      have hlt2 : (i : Int) < cap := by omega
      have hi0 : (0 : Int) ≤ i := by omega
      have hil : i < (ms.map Prod.fst).length := by simpa using hlt
      have q : ∀ j, j < 7 → wr.cell? ⟨g, i * 7 + j, none⟩ = (ms.map Prod.fst)[i].cells[j]? := fun j hj => (hb.cell (p := ⟨g, _, none⟩) hgl).trans (MultisAt.cell HG.out i j hil hj)
      rw [List.getElem_map] at q
      have q0 := q 0 (by omega)
      have q1 := q 1 (by omega)
      have q2 := q 2 (by omega)
      have q3 := q 3 (by omega)
      have q4 := q 4 (by omega)
      have q5 := q 5 (by omega)
      have q6 := q 6 (by omega)
      have HVM := Lib.hid (HM.out i hlt)
      have HS := Lib.hid (HSS.out i hlt)
      have hsl := HSL.out i hi'
      generalize ms[i] = mk at *
      obtain ⟨m, k⟩ := mk
      have HB := Lib.hid hb
      have HR := Lib.hid hm
      have hsz := hb.size
      have HSLI := Lib.hid hsl
      dsimp only at q0 q1 q2 q3 q4 q5 q6 HVM HS
      clear q hb hm hsl
      obtain ⟨m1, m2, m3, m4, m5, m6, m7⟩ := m
      simp [MultiV.cells] at q0 q1 q2 q3 q4 q5 q6
      go_wp2_with fail
      refine (mpPut ⟨m1, m2, m3, m4, m5, m6, m7⟩ k _ HVM.out.1 HVM.out.2).mono ?_
      rintro e w2 ⟨rfl, hb2⟩
      have HB2 : Hid (Below wr.heap.size wr w2) := Lib.hid (((Below.refl _ _).alloc (Nat.le_refl _) _).trans (hb2.mono (by simp)))
      have hsz2 := HB2.out.size
      clear hb2
      generalize putM ⟨m1, m2, m3, m4, m5, m6, m7⟩ k = o at *
      obtain ⟨ok, ov⟩ := o
      simp only [OptV.cells]
      have HRA := Lib.hid (World.ownsRow.alloc (World.ownsRow.alloc (HR.out.kept HB2.out) (.cells (OptV.cells ⟨ok, ov⟩) 70)) (.cells (OptV.cells ⟨ok, ov⟩) 70))
      rw [HSLI.out] at HRA
      go_wp2_with (first | (at_builtin; refine wpList_append_lies _ rfl _ _ 23 rfl w1.heap.size 70 ii _ 2 24 Tryz.underlying23 hi hz0 hz1 hz2 rfl (by omega) u6 i _ rfl HRA.out ⟨w2.heap.size + 1, 0, none⟩ 1 1 (OptV.cells ⟨ok, ov⟩).toList rfl rfl (World.news_of_block (Blk.new2 w2 _ (OptV.cells ⟨ok, ov⟩) _)) (oneO ⟨ok, ov⟩) (by omega) (by unfold maxLen; omega) (by omega) (by simp; omega) _ rfl ?_; intro g' cap' w3 hown hgrow hat hgl'; have HO := Lib.hid hown; have HGR := Lib.hid hgrow; clear hown hgrow hat))
      go_roundw
      case rel =>
        have hne : ∀ k, u6.ownBlock = some k → w1.heap.size ≤ k := fun k hk => (World.ownsRow.lt HR.out k hk).1
        refine ⟨i + 1, by omega, by go_num, ?_, ?_⟩
        · rw [HS.out]
          unfold OptRow
          rw [List.length_append, HSLI.out, List.flatMap_append]
          simpa using HO.out
        · refine (HB.out.trans (HB2.out.mono hsz)).trans ?_
          exact Below.grown ((Below.refl _ _ |>.alloc (by omega) _).alloc (by simp; omega) _) HGR.out (by simp; omega) hne
      case measure => simp [intOf]; omega
    · obtain rfl : i = ms.length := by omega
      rw [HSF.out] at hm
      have HR := Lib.hid hm
      have HB := Lib.hid hb
      clear hm hb
      go_wp2_with fail
      refine (optsCheck L u6 _ HLEN.out (OptRow.opts HR.out) H46.out H400.out).mono ?_
      rintro e w2 ⟨rfl, hb2⟩
      have HB2 := Lib.hid hb2
      clear hb2
      go_wp2_with fail
      go_ret2
      exact ⟨u6, rfl, HR.out.kept HB2.out, bnext HB.out HB2.out⟩
end Go.Proofs.YtjboillkhhefaaaGreatDoor
