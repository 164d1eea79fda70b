/- The statement's own helpers: Great, pair. -/
import Derived.Test.YtjboillkhhefaaaGreatDoorWl
set_option linter.unusedVariables false
namespace Go.Proofs.YtjboillkhhefaaaGreatDoor
open Go.RowKit

def GreatPost (l : List OptV) (w : World) (e : Ending) (w' : World) : Prop := w' = w ∧ (e = .returned (.bool true) ∨ (e = .returned (.bool false) ∧ l.length ≤ 60 ∧ ∀ o ∈ l, o.value.size ≤ 600))
set_option maxRecDepth 100000 in
set_option maxHeartbeats 1000000 in
theorem lawGreat (l : List OptV) (v : Value) (w : World) (hl : l.length ≤ 9223372036854775807) (hv : OptsAt w v l) :
    Calls Tryz.prog 9 #[v] w (GreatPost l w) := by
  obtain ⟨p, cap, rfl, hcap, hx⟩ := hv
  have HX := Lib.hid hx
  clear hx
  go_enter Tryz.func9, Tryz.ntmps9
  go_wp2_with fail
  go_loop [3] (fun c => ∃ i : Nat, i ≤ l.length ∧ i ≤ 60 ∧ c = .int .i64 i ∧ ∀ j (h : j < l.length), j < i → l[j].value.size ≤ 600) (fun c => l.length - (intOf c).toNat)
  case atStart => exact ⟨0, by omega, by omega, rfl, fun j _ h => by omega⟩
  case round =>
    obtain ⟨i, hi, hi60, rfl, hn⟩ := hrel
    have HN := Lib.hid hn
    clear hn
    by_cases hlt : i < l.length
    · have hlt' : (i : Int) < l.length := by omega
      have hlt2 : (i : Int) < cap := by omega
      have hi0 : (0 : Int) ≤ i := by omega
      by_cases h60 : i = 60
      · subst h60
        go_wp2_with fail
        go_ret
        exact ⟨rfl, .inl rfl⟩
      · have h60' : ¬ (60 : Int) ≤ i := by omega
        have h60b : decide ((60 : Int) ≤ i) = false := by simpa using h60'
        obtain ⟨b, off, rfl, hbl, hx0, hx1⟩ := HX.out i hlt
        have HNX : Hid (l[i].value.size ≤ 600 → ∀ j (h : j < l.length), j < i + 1 → l[j].value.size ≤ 600) := Lib.hid (fun h j hj hji => by
          rcases Nat.lt_or_ge j i with h1 | h1
          · exact HN.out j hj h1
          · obtain rfl : j = i := by omega
            exact h)
        generalize l[i].value = s at *
        clear hx0
        by_cases hsz : 600 < s.size
        · have hsz' : (600 : Int) < s.size := by omega
          go_wp2_with fail
          go_ret
          exact ⟨rfl, .inl rfl⟩
        · have hsz' : ¬ (600 : Int) < s.size := by omega
          have hszb : decide ((600 : Int) < s.size) = false := by simpa using hsz'
          go_wp2_with fail
          go_round
          case rel => exact ⟨i + 1, by omega, by omega, by go_num, HNX.out (by omega)⟩
          case measure => simp [intOf]; omega
    · obtain rfl : i = l.length := by omega
      go_wp2_with fail
      go_ret
      refine ⟨rfl, .inr ⟨rfl, hi60, fun o ho => ?_⟩⟩
      obtain ⟨j, hj, rfl⟩ := List.getElem_of_mem ho
      exact HN.out j hj hj

theorem results_cell_tmp2 {P : Program} {fn : Func} {p q r : Tmp} {ty : TypeId} (h : fn.results = #[.cell p ty, .tmp q, .tmp r]) (tmps : Array Value) (w : World) (g : Nat) (t : TypeId) (cs : Array Value) (fr : Nat × Nat) (d : TypeDesc) (u v : Value)
    (hp : tmps.getD p undef = .pointer (some ⟨g, 0, none⟩)) (hq : tmps.getD q undef = u) (hr : tmps.getD r undef = v) (hg : w.heap[g]? = some (.cells cs t fr))
    (hu : P.underlying ty = some d) (hd : (match d with | .struct _ | .array _ _ => true | _ => false) = true) (hi : (P.info? ty).map (·.size) = some cs.size) :
    (results fn tmps).run P w = .ok (.tuple #[.agg cs, u, v]) w := by
  have hp' : tmps[p]?.getD undef = .pointer (some ⟨g, 0, none⟩) := by simpa using hp
  have hq' : tmps[q]?.getD undef = u := by simpa using hq
  have hr' : tmps[r]?.getD undef = v := by simpa using hr
  simp [results, h, hp', hq', hr', asAddr, run_loadVar_row w g t ty cs fr d hg hu hd hi]
def PairPost (a b : ByteArray) (w : World) (e : Ending) (w' : World) : Prop := Below w.heap.size w w' ∧ ∃ c d, KeyPair c d ∧ e = .returned (.tuple #[.agg #[.string c, .string d], .string c, .string d])
set_option maxRecDepth 100000 in
set_option maxHeartbeats 1000000 in
theorem lawPair (a b : ByteArray) (w : World) :
    Calls Tryz.prog 10 #[.string a, .string b] w (PairPost a b w) := by
  by_cases h8 : a.size = 8 ∧ b.size = 8
  · go_enter Tryz.func10, Tryz.ntmps10
    go_wp2_with fail
    refine (keysNew_ok a b _ h8.1 h8.2).mono ?_
    rintro e w1 ⟨rfl, hb1⟩
    have K1 := Lib.hid ((Blk.new w #[.string ⟨#[]⟩, .string ⟨#[]⟩] 27).below hb1 (by simp))
    have HB1 : Hid (Below w.heap.size w w1) := Lib.hid (((Below.refl _ _).alloc (Nat.le_refl _) _).trans (hb1.mono (by simp)))
    have hsz1 : w.heap.size < w1.heap.size := by have := hb1.size; simp at this; omega
    have HK : Hid (KeyPair a b) := .inl h8
    clear hb1 h8
    have h1 : ∀ v ∈ (#[.string a, .string b] : Array Value).toList, v.oneCell' = true := by intro v hv; simp at hv; rcases hv with rfl | rfl <;> rfl
    have H1 := Lib.hid h1
    clear h1
    go_wp2_with (first | (refine wpList_store_blk rfl 27 _ _ rfl w.heap.size #[.string a, .string b] rfl rfl 27 _ (K1.out.alloc _) rfl (by kernel_rfl) H1.out ?_; intro w9 hk9 hg9))
    refine bodyPost_ret (results_cell_tmp2 rfl _ _ w.heap.size 27 _ _ _ (.string a) (.string b) rfl rfl rfl hk9 Tryz.underlying27 rfl (by kernel_rfl)) rfl ?_
    exact ⟨(HB1.out.alloc (by omega) _).trans (below_grown hg9 (by omega) (by simp; omega)), a, b, HK.out, rfl⟩
  · go_enter Tryz.func10, Tryz.ntmps10
    go_wp2_with fail
    refine (keysNew_no a b _ h8).mono ?_
    rintro e w1 ⟨rfl, hb1⟩
    have K1 := Lib.hid ((Blk.new w #[.string ⟨#[]⟩, .string ⟨#[]⟩] 27).below hb1 (by simp))
    have HB1 : Hid (Below w.heap.size w w1) := Lib.hid (((Below.refl _ _).alloc (Nat.le_refl _) _).trans (hb1.mono (by simp)))
    have hsz1 : w.heap.size < w1.heap.size := by have := hb1.size; simp at this; omega
    clear hb1 h8
    have h1 : ∀ v ∈ (#[.string ⟨#[]⟩, .string ⟨#[]⟩] : Array Value).toList, v.oneCell' = true := by intro v hv; simp at hv; rcases hv with rfl | rfl <;> rfl
    have H1 := Lib.hid h1
    clear h1
    go_wp2_with (first | (refine wpList_store_blk rfl 27 _ _ rfl w.heap.size #[.string ⟨#[]⟩, .string ⟨#[]⟩] rfl rfl 27 _ (K1.out.alloc _) rfl (by kernel_rfl) H1.out ?_; intro w9 hk9 hg9))
    refine bodyPost_ret (results_cell_tmp2 rfl _ _ w.heap.size 27 _ _ _ (.string ⟨#[]⟩) (.string ⟨#[]⟩) rfl rfl rfl hk9 Tryz.underlying27 rfl (by kernel_rfl)) rfl ?_
    exact ⟨(HB1.out.alloc (by omega) _).trans (below_grown hg9 (by omega) (by simp; omega)), ⟨#[]⟩, ⟨#[]⟩, .inr ⟨rfl, rfl⟩, rfl⟩
end Go.Proofs.YtjboillkhhefaaaGreatDoor
