/- The program's package mpopt: Find. -/
import Derived.Test.YtjboillkhhefaaaGreatDoorMpc
set_option linter.unusedVariables false
namespace Go.Proofs.YtjboillkhhefaaaGreatDoor
open Go.RowKit

/-- Where the first of a kind stands; -1: nowhere. -/
def idxM (l : List MultiV) (kind : Int) : Int := match l.findIdx? (fun m => m.kind == kind) with
  | some i => i
  | none => -1
def firstM (l : List MultiV) (kind : Int) : Option MultiV := l.find? (fun m => m.kind == kind)
def NoneTill (l : List MultiV) (kind : Int) (i : Nat) : Prop := ∀ j (h : j < l.length), j < i → (l[j].kind == kind) = false
theorem idxM_at (l : List MultiV) (kind : Int) (i : Nat) (h : i < l.length) (hn : NoneTill l kind i) (hi : (l[i].kind == kind) = true) : idxM l kind = i ∧ firstM l kind = some l[i] := by
  have h1 : l.findIdx? (fun m => m.kind == kind) = some i := List.findIdx?_eq_some_iff_getElem.2 ⟨h, hi, fun j hj => by rw [hn j (by omega) hj]; simp⟩
  constructor
  · unfold idxM; rw [h1]
  · unfold firstM
    rw [List.find?_eq_some_iff_getElem]
    exact ⟨hi, i, h, rfl, fun j hj => by rw [hn j (by omega) hj]; rfl⟩
theorem idxM_none (l : List MultiV) (kind : Int) (hn : NoneTill l kind l.length) : idxM l kind = -1 ∧ firstM l kind = none := by
  have h0 : ∀ m ∈ l, (m.kind == kind) = false := fun m hm => by
    obtain ⟨j, hj, rfl⟩ := List.getElem_of_mem hm
    exact hn j hj hj
  have h1 : l.findIdx? (fun m => m.kind == kind) = none := List.findIdx?_eq_none_iff.2 h0
  constructor
  · unfold idxM; rw [h1]
  · unfold firstM
    rw [List.find?_eq_none]
    intro m hm
    rw [h0 m hm]; simp
theorem idxM_range (l : List MultiV) (kind : Int) : -1 ≤ idxM l kind ∧ idxM l kind < l.length := by
  unfold idxM
  split
  · rename_i i h
    have := (List.findIdx?_eq_some_iff_getElem.1 h).1
    omega
  · omega
theorem idxM_some (l : List MultiV) (kind : Int) (h : 0 ≤ idxM l kind) : ∃ h' : (idxM l kind).toNat < l.length, firstM l kind = some l[(idxM l kind).toNat] := by
  cases hf : l.findIdx? (fun m => m.kind == kind) with
  | none => unfold idxM at h; rw [hf] at h; simp at h
  | some i =>
    obtain ⟨h1, h2, h3⟩ := List.findIdx?_eq_some_iff_getElem.1 hf
    have := idxM_at l kind i h1 (fun j hj hji => by have := h3 j hji; simpa using this) h2
    rw [this.1, this.2]
    exact ⟨by simpa using h1, by simp⟩
theorem idxM_neg (l : List MultiV) (kind : Int) (h : idxM l kind < 0) : firstM l kind = none := by
  cases hf : l.findIdx? (fun m => m.kind == kind) with
  | none =>
    have := List.findIdx?_eq_none_iff.1 hf
    unfold firstM
    rw [List.find?_eq_none]
    intro m hm
    rw [this m hm]; simp
  | some i => unfold idxM at h; rw [hf] at h; dsimp only at h; omega

theorem mpIs (c : Nat) (kind : Int) (m : MultiV) (w : World) (hc : w.cell? ⟨c, 0, none⟩ = some (.int .i64 kind)) :
    Calls Tryz.prog 73 #[.agg m.cells, .pointer (some ⟨c, 0, none⟩)] w fun e w' => e = .returned (.bool (m.kind == kind)) ∧ Below w.heap.size w w' := by
  have hlt := World.block_lt_of_cell? _ _ hc
  have hc1 := (cell_alloc (o := .cells m.cells 65) hlt).trans hc
  obtain ⟨m1, m2, m3, m4, m5, m6, m7⟩ := m
  simp only [MultiV.cells] at *
  go_enter Tryz.func73, Tryz.ntmps73
  go_wp2_with fail
  go_ret
  exact ⟨rfl, (Below.refl _ _).alloc (Nat.le_refl _) _⟩
/-- A function that tells whether an option is of a kind that a variable holds. -/
def TellsKind (F : FuncId) (c : Nat) (kind : Int) : Prop := (∀ args w, (callFunc F args).run Tryz.prog w = .ok (.enter F args) w) ∧ ∀ (m : MultiV) (w : World), w.cell? ⟨c, 0, none⟩ = some (.int .i64 kind) → Calls Tryz.prog F #[.agg m.cells, .pointer (some ⟨c, 0, none⟩)] w fun e w' => e = .returned (.bool (m.kind == kind)) ∧ Below w.heap.size w w'

set_option maxRecDepth 100000 in
set_option maxHeartbeats 1000000 in
theorem mpIndex (B c : Nat) (F : FuncId) (kind : Int) (l : List MultiV) (v : Value) (w : World) (hB : B ≤ w.heap.size) (hl : l.length ≤ 1000) (hv : MultisAt B w v l) (hF : TellsKind F c kind) (hc : w.cell? ⟨c, 0, none⟩ = some (.int .i64 kind)) :
    Calls Tryz.prog 72 #[v, .func (.func F) #[] #[.pointer (some ⟨c, 0, none⟩)]] w fun e w' => e = .returned (.int .i64 (idxM l kind)) ∧ Below w.heap.size w w' := by
  obtain ⟨eF, hT⟩ := hF
  have HT := Lib.hid hT
  have hcl := World.block_lt_of_cell? _ _ hc
  have HC := Lib.hid hc
  clear hT hc
  rcases hv.form with ⟨rfl, rfl⟩ | ⟨g, cap, rfl, hBg, hgl, hcap⟩
  · have HI : Hid (idxM [] kind = -1) := rfl
    go_enter Tryz.func72, Tryz.ntmps72
    go_wp2_with fail
    go_loopw [8] (fun c wr => c = .int .i64 0 ∧ wr = w) (fun _ _ => 0)
    case atStart => exact ⟨rfl, rfl⟩
    case round =>
      obtain ⟨rfl, rfl⟩ := hrel
      go_wp2_with fail
      go_ret
      exact ⟨ret_int HI.out.symm, Below.refl _ _⟩
  · have HV := Lib.hid hv
    clear hv
    go_enter Tryz.func72, Tryz.ntmps72
    go_wp2_with fail
    go_loopw [8] (fun c wr => ∃ i : Nat, i ≤ l.length ∧ c = .int .i64 i ∧ NoneTill l kind i ∧ Below w.heap.size w wr) (fun c _ => l.length - (intOf c).toNat)
    case atStart => exact ⟨0, by omega, rfl, fun j _ h => by omega, Below.refl _ _⟩
    case round =>
      obtain ⟨i, hi, rfl, hn, hb⟩ := hrel
      have HN := Lib.hid hn
      clear hn
      by_cases hlt : i < l.length
      · have hlt' : (i : Int) < l.length := by omega
        have hlt2 : (i : Int) < cap := by omega
        have hi0 : (0 : Int) ≤ i := by omega
        have q : ∀ j, j < 7 → wr.cell? ⟨g, i * 7 + j, none⟩ = l[i].cells[j]? := fun j hj => (hb.cell (p := ⟨g, _, none⟩) hgl).trans (HV.out.cell i j hlt hj)
        have q0 := q 0 (by omega)
        have q1 := q 1 (by omega)
        have q2 := q 2 (by omega)
        have q3 := q 3 (by omega)
        have q4 := q 4 (by omega)
        have q5 := q 5 (by omega)
        have q6 := q 6 (by omega)
        have HAT := Lib.hid (idxM_at l kind i hlt HN.out)
        have HNX : Hid (l[i].kind == kind → True) := fun _ => trivial
        have hnx : (l[i].kind == kind) = false → NoneTill l kind (i + 1) := fun he j hj hji => by
          rcases Nat.lt_or_ge j i with h | h
          · exact HN.out j hj h
          · obtain rfl : j = i := by omega
            exact he
        have HNX := Lib.hid hnx
        generalize hm : l[i] = m at *
        obtain ⟨m1, m2, m3, m4, m5, m6, m7⟩ := m
        simp [MultiV.cells] at q0 q1 q2 q3 q4 q5 q6
        have HB := Lib.hid hb
        have hcr := (hb.cell (p := ⟨c, 0, none⟩) hcl).trans HC.out
        have HCR := Lib.hid hcr
        clear q hm hnx hcr hb
        go_wp2_with fail
        refine (HT.out ⟨m1, m2, m3, m4, m5, m6, m7⟩ _ HCR.out).mono ?_
        rintro e w2 ⟨rfl, hb2⟩
        have HB2 := Lib.hid hb2
        clear hb2
        by_cases hk : (m1 == kind) = true
        · have HK := Lib.hid hk
          have HI := Lib.hid (HAT.out hk)
          simp only [hk]
          clear hk
          go_wp2_with fail
          go_ret
          exact ⟨ret_int HI.out.1.symm, bnext HB.out HB2.out⟩
        · have hk' : (m1 == kind) = false := by simpa using hk
          have HI := Lib.hid (HNX.out hk')
          simp only [hk']
          clear hk hk'
          go_wp2_with fail
          go_roundw
          case rel => exact ⟨i + 1, by omega, by go_num, HI.out, bnext HB.out HB2.out⟩
          case measure => simp [intOf]; omega
      · obtain rfl : i = l.length := by omega
        have HI := Lib.hid (idxM_none l kind HN.out)
        go_wp2_with fail
        go_ret
        exact ⟨ret_int HI.out.1.symm, hb⟩
end Go.Proofs.YtjboillkhhefaaaGreatDoor
