/- The statement ForgeChecks: the walk. -/
import Derived.Test.YtjboillkhhefaaaGreatDoorLwa
set_option linter.unusedVariables false
namespace Go.Proofs.YtjboillkhhefaaaGreatDoor
open Go.RowKit

theorem OptsAt.news {w : World} {p : Option Addr} {n cap : Nat} {l : List OptV} (h : OptsAt w (.slice p n cap) l) : n = l.length ∧ ∀ (j : Nat) (u : Value), (l.flatMap fun o => o.cells.toList)[j]? = some u → ∃ ad : Addr, p = some ad ∧ w.cell? (ad.add j) = some u := by
  obtain ⟨p', cap', hv, hc, hx⟩ := h
  simp only [Value.slice.injEq] at hv
  obtain ⟨rfl, rfl, rfl⟩ := hv
  refine ⟨rfl, fun j u hu => ?_⟩
  have hlen : ∀ l : List OptV, (l.flatMap fun o => o.cells.toList).length = l.length * 2 := fun l => by
    induction l with
    | nil => rfl
    | cons a l ih => rw [List.flatMap_cons, List.length_append, ih]; show 2 + _ = _; rw [List.length_cons]; omega
  have hj : j < l.length * 2 := by rw [← hlen]; exact (List.getElem?_eq_some_iff.1 hu).1
  obtain ⟨b, off, hp, hb, h0, h1⟩ := hx (j / 2) (by omega)
  refine ⟨⟨b, off, none⟩, hp, ?_⟩
  have hadd : ∀ j, (⟨b, off, none⟩ : Addr).add j = ⟨b, off + j, none⟩ := fun j => by unfold Addr.add; split <;> simp_all
  rw [hadd]
  have hm := flat2 l (j / 2) (j % 2) (by omega) (by omega)
  rw [show j / 2 * 2 + j % 2 = j by omega, hu] at hm
  rcases Nat.mod_two_eq_zero_or_one j with e | e
  · rw [e] at hm
    rw [show off + j = off + j / 2 * 2 by omega, h0]
    exact hm.symm
  · rw [e] at hm
    rw [show off + j = off + j / 2 * 2 + 1 by omega, h1]
    exact hm.symm

theorem flat_len (l : List OptV) : (l.flatMap fun o => o.cells.toList).length = l.length * 2 := by
  induction l with
  | nil => rfl
  | cons a l ih => rw [List.flatMap_cons, List.length_append, ih]; show 2 + _ = _; rw [List.length_cons]; omega
theorem run_append_none (w : World) (b c : Nat) (p : Option Addr) (ty : TypeId) : (Builtin.append_ #[23, 23] ty #[.slice (some ⟨b, 0, none⟩) 0 0, .slice p 0 c]).run Tryz.prog w = .ok (.slice (some ⟨b, 0, none⟩) 0 0) w := by
  obtain ⟨ii, hi, hz0, hz1, hz2⟩ := info_parts info_opt
  have hadd : (⟨b, 0, none⟩ : Addr).add 0 = ⟨b, 0, none⟩ := by simp [Addr.add]
  cases p <;> simp [Builtin.append_, run_underlying Tryz.underlying23, sizeOf, typeInfo, hi, Builtin.lenOf, storeCells, Builtin.firstCells, loadCells, loadCellsFrom]
theorem wpList_append_none {ops : Array Oper} {rest : List Oper} {o : Oper} {a : Act} {Q : Exit → Act → World → Prop} {w : World} (hgd : o.guard = none) (s x : Operand)
    (ho : o.op = .call { callee := .builtin .append, args := #[s, x], argTypes := #[23, 23] })
    (b c : Nat) (p : Option Addr) (hs : a.eval s = .slice (some ⟨b, 0, none⟩) 0 0) (hx : a.eval x = .slice p 0 c)
    (hk : wpList Tryz.prog ops Q rest (a.put o.dst (.slice (some ⟨b, 0, none⟩) 0 0)) w) : wpList Tryz.prog ops Q (o :: rest) a w := by
  have hr := run_append_none w b c p o.type
  refine wpList_plain hgd fun K hK => ?_
  unfold Oper.wp execOp
  simp only [ho, resolve, invoke, builtin, Sem.run_bind, Sem.run_pure, Result.andThen_ok, List.map_toArray, List.map_cons, List.map_nil, hs, hx, hr]
  exact hK _ _ hk
set_option maxRecDepth 100000 in
set_option maxHeartbeats 2000000 in
theorem forgeChecksWalk (k0 k1 data : ByteArray) (side : Bool) (l : List OptV) (v : Value) (w : World) (hg : ErrVar w) (hl : l.length ≤ 9223372036854775807) (hv : OptsAt w v l) (hd : data.size ≤ 9223372036854775807) (hk0 : k0.size ≤ 9223372036854775807) (hk1 : k1.size ≤ 9223372036854775807) :
    Calls Tryz.prog 3 #[.agg #[.string k0, .string k1], .bool side, v, .string data] w fun e w' => e = .returned (.bool true) ∧ Below w.heap.size w w' := by
  obtain ⟨ii, hi, hz0, hz1, hz2⟩ := info_parts info_opt
  have HG := Lib.hid hg
  have HV := Lib.hid hv
  obtain ⟨p, cap, rfl, hcap, -⟩ := hv
  have HNW := Lib.hid (OptsAt.news HV.out).2
  clear hg
  go_enter Tryz.func3, Tryz.ntmps3
  go_wp2_with fail
  have hb0 : Below w.heap.size w (w.alloc (.cells #[.string k0, .string k1] 22)) := (Below.refl _ _).alloc (Nat.le_refl _) _
  refine (forgeWorks _ (HG.out.below hb0 (Nat.le_refl _))).mono ?_
  rintro e w1 ⟨rfl, hb1⟩
  have K1 := Lib.hid ((Blk.new w #[.string k0, .string k1] 22).below hb1 (by simp))
  have HB1 : Hid (Below w.heap.size w w1) := Lib.hid (hb0.trans (hb1.mono (by simp)))
  have HV1 := Lib.hid (HV.out.below HB1.out (Nat.le_refl _))
  have HG1 := Lib.hid (HG.out.below HB1.out (Nat.le_refl _))
  have hsz1 : w.heap.size < w1.heap.size := by have := hb1.size; simp at this; omega
  have q0 : w1.cell? ⟨w.heap.size, 0, none⟩ = some (.string k0) := by rw [K1.out.cell 0]; rfl
  have q1 : w1.cell? ⟨w.heap.size, 1, none⟩ = some (.string k1) := by rw [K1.out.cell 1]; rfl
  clear hb0 hb1
  by_cases c0 : 1000 < k0.size
  · have c0' : decide ((1000 : Int) < k0.size) = true := by simp; omega
    go_wp2_with fail
    go_ret
    exact ⟨rfl, HB1.out⟩
  have c0' : decide ((1000 : Int) < k0.size) = false := by simp; omega
  by_cases c1 : 1000 < k1.size
  · have c1' : decide ((1000 : Int) < k1.size) = true := by simp; omega
    go_wp2_with fail
    go_ret
    exact ⟨rfl, HB1.out⟩
  have c1' : decide ((1000 : Int) < k1.size) = false := by simp; omega
  by_cases c2 : 1000 < data.size
  · have c2' : decide ((1000 : Int) < data.size) = true := by simp; omega
    go_wp2_with fail
    go_ret
    exact ⟨rfl, HB1.out⟩
  have c2' : decide ((1000 : Int) < data.size) = false := by simp; omega
  go_wp2_with fail
  refine (lawGreat l _ _ hl HV1.out).mono ?_
  rintro e w2 ⟨rfl, rfl | ⟨rfl, hl60, hso⟩⟩
  · go_wp2_with fail
    go_ret
    exact ⟨rfl, HB1.out⟩
  have HSO : Hid (∀ o ∈ l, o.value.size ≤ 1099511627776) := Lib.hid (fun o ho => by have := hso o ho; omega)
  clear hso c0' c1' c2'
  go_wp2_with fail
  refine (lawPair k0 k1 _).mono ?_
  rintro e w3 ⟨hb3, a, b, hk, rfl⟩
  have HK := Lib.hid hk
  have HB3 : Hid (Below w.heap.size w w3) := Lib.hid (HB1.out.trans (hb3.mono (by omega)))
  have hsz3 : w.heap.size < w3.heap.size := by have := hb3.size; omega
  have HV3 := Lib.hid (HV.out.below HB3.out (Nat.le_refl _))
  clear hb3 hk q0 q1
  by_cases hl0 : l.length = 0
  · obtain rfl := List.length_eq_zero_iff.1 hl0
    cases side
    · skip
      have hb9 : Below w3.heap.size w3 (((w3.alloc (.cells #[.string a, .string b] 27)).alloc (.cells #[] 70)).alloc (.cells (pktCells ⟨4, false, 0, 0, 0, 0, 0, 0, 0, 0, 0⟩ (.slice (some ⟨w3.heap.size + 1, 0, none⟩) 0 0) data) 31)) := (((Below.refl _ _).alloc (Nat.le_refl _) _).alloc (by simp) _).alloc (by simp; omega) _
      obtain ⟨w9, hw9⟩ : ∃ w9, w9 = (((w3.alloc (.cells #[.string a, .string b] 27)).alloc (.cells #[] 70)).alloc (.cells (pktCells ⟨4, false, 0, 0, 0, 0, 0, 0, 0, 0, 0⟩ (.slice (some ⟨w3.heap.size + 1, 0, none⟩) 0 0) data) 31)) := ⟨_, rfl⟩
      have KP : Hid (Blk w9 w3.heap.size #[.string a, .string b] 27) := Lib.hid (by rw [hw9]; exact ((Blk.new w3 _ _).alloc _).alloc _)
      have KX : Hid (Blk w9 (w3.heap.size + 1 + 1) (pktCells ⟨4, false, 0, 0, 0, 0, 0, 0, 0, 0, 0⟩ (.slice (some ⟨w3.heap.size + 1, 0, none⟩) 0 0) data) 31) := Lib.hid (by rw [hw9]; exact Blk.at _ _ _ _ (by simp))
      have HB9 : Hid (Below w.heap.size w w9) := Lib.hid (by rw [hw9]; exact HB3.out.trans (hb9.mono (by omega)))
      have HV9 : Hid (OptsAt w9 (.slice (some ⟨w3.heap.size + 1, 0, none⟩) 0 0) []) := Lib.hid ⟨_, _, rfl, by simp, fun i hi => absurd hi (by simp)⟩
      have HG9 := Lib.hid (HG.out.below HB9.out (Nat.le_refl _))
      clear hb9
      simp only [pktCells] at hw9
      go_wp2_with (first | (at_builtin; refine wpList_append_none rfl _ _ rfl (w3.heap.size + 1) cap p rfl rfl ?_))
      rw [← hw9]
      clear hw9
      obtain ⟨y0, y1⟩ := pairAt KP.out
      obtain ⟨x0, x1, x2, x3, x4, x5, x6, x7, x8, x9, x10, x11, x12⟩ := pktAt KX.out
      have y0 := cell_regrown y0
      have y1 := cell_regrown y1
      have x0 := cell_regrown x0
      have x1 := cell_regrown x1
      have x2 := cell_regrown x2
      have x3 := cell_regrown x3
      have x4 := cell_regrown x4
      have x5 := cell_regrown x5
      have x6 := cell_regrown x6
      have x7 := cell_regrown x7
      have x8 := cell_regrown x8
      have x9 := cell_regrown x9
      have x10 := cell_regrown x10
      have x11 := cell_regrown x11
      have x12 := cell_regrown x12
      have CA := Lib.hid (fun (d : Nat) (os : Array Obj) => Calls.regrown_of (forgeCheck a b 0 ⟨4, false, 0, 0, 0, 0, 0, 0, 0, 0, 0⟩ [] (.slice (some ⟨w3.heap.size + 1, 0, none⟩) 0 0) data (Sort.grow (redrawn w9 d) os) (HG9.out.below (below_regrown w9 d os) (Nat.le_refl _)) HK.out (by omega) (HV9.out.below (below_regrown w9 d os) (Nat.le_refl _)) HSO.out (by omega)))
      have CB := Lib.hid (fun (d : Nat) (os : Array Obj) => Calls.regrown_of (refCheck a b 0 ⟨4, false, 0, 0, 0, 0, 0, 0, 0, 0, 0⟩ [] (.slice (some ⟨w3.heap.size + 1, 0, none⟩) 0 0) data (Sort.grow (redrawn w9 d) os) HK.out (by omega) (HV9.out.below (below_regrown w9 d os) (Nat.le_refl _)) HSO.out (by omega)))
      have CC := Lib.hid (fun (d : Nat) (os : Array Obj) => Calls.regrown_of (forgeSays a b 0 ⟨4, false, 0, 0, 0, 0, 0, 0, 0, 0, 0⟩ [] (.slice (some ⟨w3.heap.size + 1, 0, none⟩) 0 0) data (Sort.grow (redrawn w9 d) os) HK.out (by omega) (HV9.out.below (below_regrown w9 d os) (Nat.le_refl _)) HSO.out))
      have CD := Lib.hid (fun (d : Nat) (os : Array Obj) => Calls.regrown_of (refSays a b 0 ⟨4, false, 0, 0, 0, 0, 0, 0, 0, 0, 0⟩ [] (.slice (some ⟨w3.heap.size + 1, 0, none⟩) 0 0) data (Sort.grow (redrawn w9 d) os) HK.out (by omega) (HV9.out.below (below_regrown w9 d os) (Nat.le_refl _)) HSO.out))
      have CE := Lib.hid (fun (d : Nat) (os : Array Obj) => Calls.regrown_of (forgeHears a b 0 ⟨4, false, 0, 0, 0, 0, 0, 0, 0, 0, 0⟩ [] (.slice (some ⟨w3.heap.size + 1, 0, none⟩) 0 0) data (Sort.grow (redrawn w9 d) os) HK.out (by omega) (HV9.out.below (below_regrown w9 d os) (Nat.le_refl _)) HSO.out))
      have CF := Lib.hid (fun (d : Nat) (os : Array Obj) => Calls.regrown_of (refHears a b 0 ⟨4, false, 0, 0, 0, 0, 0, 0, 0, 0, 0⟩ [] (.slice (some ⟨w3.heap.size + 1, 0, none⟩) 0 0) data (Sort.grow (redrawn w9 d) os) HK.out (by omega) (HV9.out.below (below_regrown w9 d os) (Nat.le_refl _)) HSO.out))
      generalize checkE (allM []) a b 0 data = E at *
      generalize saysB (allM []) a b 0 = sB at *
      generalize hearsB (allM []) a b 0 = hB at *
      refine wp_region_quiet_below (by kernel_rfl) (by kernel_rfl) ?_
      repeat (go_big_quiet_step (first | (go_at_call 11; exact CA.out _ _) | (go_at_call 12; exact CB.out _ _) | (go_at_call 13; exact CC.out _ _) | (go_at_call 14; exact CD.out _ _) | (go_at_call 15; exact CE.out _ _) | (go_at_call 16; exact CF.out _ _)))
      refine wpQuiet_nil ?_
      intro w10 hw'
      have hb10 : Below w9.heap.size w9 w10 := by obtain ⟨p, rfl⟩ := hw'; exact below_regrown _ _ _
      clear hw'
      go_wp2_with fail
      go_ret
      exact ⟨by simp, bnext HB9.out hb10⟩
    · skip
      have hb9 : Below w3.heap.size w3 (((w3.alloc (.cells #[.string a, .string b] 27)).alloc (.cells #[] 70)).alloc (.cells (pktCells ⟨4, false, 0, 0, 0, 0, 0, 0, 0, 0, 0⟩ (.slice (some ⟨w3.heap.size + 1, 0, none⟩) 0 0) data) 31)) := (((Below.refl _ _).alloc (Nat.le_refl _) _).alloc (by simp) _).alloc (by simp; omega) _
      obtain ⟨w9, hw9⟩ : ∃ w9, w9 = (((w3.alloc (.cells #[.string a, .string b] 27)).alloc (.cells #[] 70)).alloc (.cells (pktCells ⟨4, false, 0, 0, 0, 0, 0, 0, 0, 0, 0⟩ (.slice (some ⟨w3.heap.size + 1, 0, none⟩) 0 0) data) 31)) := ⟨_, rfl⟩
      have KP : Hid (Blk w9 w3.heap.size #[.string a, .string b] 27) := Lib.hid (by rw [hw9]; exact ((Blk.new w3 _ _).alloc _).alloc _)
      have KX : Hid (Blk w9 (w3.heap.size + 1 + 1) (pktCells ⟨4, false, 0, 0, 0, 0, 0, 0, 0, 0, 0⟩ (.slice (some ⟨w3.heap.size + 1, 0, none⟩) 0 0) data) 31) := Lib.hid (by rw [hw9]; exact Blk.at _ _ _ _ (by simp))
      have HB9 : Hid (Below w.heap.size w w9) := Lib.hid (by rw [hw9]; exact HB3.out.trans (hb9.mono (by omega)))
      have HV9 : Hid (OptsAt w9 (.slice (some ⟨w3.heap.size + 1, 0, none⟩) 0 0) []) := Lib.hid ⟨_, _, rfl, by simp, fun i hi => absurd hi (by simp)⟩
      have HG9 := Lib.hid (HG.out.below HB9.out (Nat.le_refl _))
      clear hb9
      simp only [pktCells] at hw9
      go_wp2_with (first | (at_builtin; refine wpList_append_none rfl _ _ rfl (w3.heap.size + 1) cap p rfl rfl ?_))
      rw [← hw9]
      clear hw9
      obtain ⟨y0, y1⟩ := pairAt KP.out
      obtain ⟨x0, x1, x2, x3, x4, x5, x6, x7, x8, x9, x10, x11, x12⟩ := pktAt KX.out
      have y0 := cell_regrown y0
      have y1 := cell_regrown y1
      have x0 := cell_regrown x0
      have x1 := cell_regrown x1
      have x2 := cell_regrown x2
      have x3 := cell_regrown x3
      have x4 := cell_regrown x4
      have x5 := cell_regrown x5
      have x6 := cell_regrown x6
      have x7 := cell_regrown x7
      have x8 := cell_regrown x8
      have x9 := cell_regrown x9
      have x10 := cell_regrown x10
      have x11 := cell_regrown x11
      have x12 := cell_regrown x12
      have CA := Lib.hid (fun (d : Nat) (os : Array Obj) => Calls.regrown_of (forgeCheck a b 1 ⟨4, false, 0, 0, 0, 0, 0, 0, 0, 0, 0⟩ [] (.slice (some ⟨w3.heap.size + 1, 0, none⟩) 0 0) data (Sort.grow (redrawn w9 d) os) (HG9.out.below (below_regrown w9 d os) (Nat.le_refl _)) HK.out (by omega) (HV9.out.below (below_regrown w9 d os) (Nat.le_refl _)) HSO.out (by omega)))
      have CB := Lib.hid (fun (d : Nat) (os : Array Obj) => Calls.regrown_of (refCheck a b 1 ⟨4, false, 0, 0, 0, 0, 0, 0, 0, 0, 0⟩ [] (.slice (some ⟨w3.heap.size + 1, 0, none⟩) 0 0) data (Sort.grow (redrawn w9 d) os) HK.out (by omega) (HV9.out.below (below_regrown w9 d os) (Nat.le_refl _)) HSO.out (by omega)))
      have CC := Lib.hid (fun (d : Nat) (os : Array Obj) => Calls.regrown_of (forgeSays a b 1 ⟨4, false, 0, 0, 0, 0, 0, 0, 0, 0, 0⟩ [] (.slice (some ⟨w3.heap.size + 1, 0, none⟩) 0 0) data (Sort.grow (redrawn w9 d) os) HK.out (by omega) (HV9.out.below (below_regrown w9 d os) (Nat.le_refl _)) HSO.out))
      have CD := Lib.hid (fun (d : Nat) (os : Array Obj) => Calls.regrown_of (refSays a b 1 ⟨4, false, 0, 0, 0, 0, 0, 0, 0, 0, 0⟩ [] (.slice (some ⟨w3.heap.size + 1, 0, none⟩) 0 0) data (Sort.grow (redrawn w9 d) os) HK.out (by omega) (HV9.out.below (below_regrown w9 d os) (Nat.le_refl _)) HSO.out))
      have CE := Lib.hid (fun (d : Nat) (os : Array Obj) => Calls.regrown_of (forgeHears a b 1 ⟨4, false, 0, 0, 0, 0, 0, 0, 0, 0, 0⟩ [] (.slice (some ⟨w3.heap.size + 1, 0, none⟩) 0 0) data (Sort.grow (redrawn w9 d) os) HK.out (by omega) (HV9.out.below (below_regrown w9 d os) (Nat.le_refl _)) HSO.out))
      have CF := Lib.hid (fun (d : Nat) (os : Array Obj) => Calls.regrown_of (refHears a b 1 ⟨4, false, 0, 0, 0, 0, 0, 0, 0, 0, 0⟩ [] (.slice (some ⟨w3.heap.size + 1, 0, none⟩) 0 0) data (Sort.grow (redrawn w9 d) os) HK.out (by omega) (HV9.out.below (below_regrown w9 d os) (Nat.le_refl _)) HSO.out))
      generalize checkE (allM []) a b 1 data = E at *
      generalize saysB (allM []) a b 1 = sB at *
      generalize hearsB (allM []) a b 1 = hB at *
      refine wp_region_quiet_below (by kernel_rfl) (by kernel_rfl) ?_
      repeat (go_big_quiet_step (first | (go_at_call 11; exact CA.out _ _) | (go_at_call 12; exact CB.out _ _) | (go_at_call 13; exact CC.out _ _) | (go_at_call 14; exact CD.out _ _) | (go_at_call 15; exact CE.out _ _) | (go_at_call 16; exact CF.out _ _)))
      refine wpQuiet_nil ?_
      intro w10 hw'
      have hb10 : Below w9.heap.size w9 w10 := by obtain ⟨p, rfl⟩ := hw'; exact below_regrown _ _ _
      clear hw'
      go_wp2_with fail
      go_ret
      exact ⟨by simp, bnext HB9.out hb10⟩
  · have hpos : 0 < l.length := by omega
    obtain ⟨ad, rfl⟩ : ∃ ad, p = some ad := by
      obtain ⟨p', cap', hv, _, hx⟩ := HV.out
      simp only [Value.slice.injEq] at hv
      obtain ⟨b, off, hp, _⟩ := hx 0 hpos
      exact ⟨_, hv.1.trans hp⟩
    cases side
    · skip
      have HOW := Lib.hid (World.ownsRow_made (e := 70) (size := 2) (w3.alloc (.cells #[.string a, .string b] 27)) #[] 0 (base := w3.heap.size + 1) (by simp) (by decide) rfl)
      have HOWS : Hid (World.ownsRow ((w3.alloc (.cells #[.string a, .string b] 27)).alloc (.cells #[] 70)) (w3.heap.size + 1) 70 2 (.slice (some ⟨w3.heap.size + 1, 0, none⟩) 0 0) 0 []) := Lib.hid (by have h := HOW.out; rw [show (w3.alloc (Obj.cells #[.string a, .string b] 27)).heap.size = w3.heap.size + 1 by simp] at h; exact h)
      have HNX : Hid (∀ (j : Nat) (u : Value), (l.flatMap fun o => o.cells.toList)[j]? = some u → ((w3.alloc (.cells #[.string a, .string b] 27)).alloc (.cells #[] 70)).cell? (ad.add j) = some u) := Lib.hid (fun j u hu => by
        obtain ⟨ad', had, hc⟩ := HNW.out j u hu
        cases had
        have hlt := World.block_lt_of_cell? _ _ hc
        rw [cell_alloc (by simp; have := HB3.out.size; omega), cell_alloc (by have := HB3.out.size; omega), HB3.out.cell hlt]
        exact hc)
      have HLN : Hid ((l.flatMap fun o => o.cells.toList).length = l.length * 2) := Lib.hid (flat_len l)
      have HL1 : Hid (∀ u ∈ (l.flatMap fun o => o.cells.toList), u.oneCell' = true) := Lib.hid (fun u hu => by
        obtain ⟨o, _, ho⟩ := List.mem_flatMap.1 hu
        exact oneO o u ho)
      go_wp2_with (first | (at_builtin; refine wpList_append_lies _ rfl _ _ 23 rfl (w3.heap.size + 1) 70 ii _ 2 24 Tryz.underlying23 hi hz0 hz1 hz2 rfl (by omega) (.slice (some ⟨w3.heap.size + 1, 0, none⟩) 0 0) 0 [] rfl HOWS.out ad l.length cap _ rfl HLN.out HNX.out HL1.out hpos (by unfold maxLen; omega) (by omega) (by simp) _ rfl ?_; intro g cap' w5 hown hgrow hat hgl; have HO := Lib.hid hown; have HGR := Lib.hid hgrow; clear hown hgrow hat))
      have hb5 : Below w3.heap.size w3 w5 := ((Below.refl _ _ |>.alloc (Nat.le_refl _) _).alloc (by simp) _).trans (below_grown HGR.out (by simp) (by simp; omega))
      have KP5 := Lib.hid (((Blk.new w3 #[.string a, .string b] 27).alloc (.cells #[] 70)).grown HGR.out (by simp [Value.ownBlock]))
      have hv5 : OptsAt w5 (.slice (some ⟨g, 0, none⟩) l.length cap') l := OptRow.opts (B := w3.heap.size + 1) (by unfold OptRow; have h := HO.out; rw [List.nil_append] at h; rw [Nat.zero_add] at h; exact h)
      have hw35 : w3.heap.size < w5.heap.size := KP5.out.lt
      obtain ⟨w9, hw9⟩ : ∃ w9, w9 = w5.alloc (.cells (pktCells ⟨4, false, 0, 0, 0, 0, 0, 0, 0, 0, 0⟩ (.slice (some ⟨g, 0, none⟩) l.length cap') data) 31) := ⟨_, rfl⟩
      have KP : Hid (Blk w9 w3.heap.size #[.string a, .string b] 27) := Lib.hid (by rw [hw9]; exact KP5.out.alloc _)
      have KX : Hid (Blk w9 w5.heap.size (pktCells ⟨4, false, 0, 0, 0, 0, 0, 0, 0, 0, 0⟩ (.slice (some ⟨g, 0, none⟩) l.length cap') data) 31) := Lib.hid (by rw [hw9]; exact Blk.new _ _ _)
      have hb59 : Below w5.heap.size w5 w9 := by rw [hw9]; exact (Below.refl _ _).alloc (Nat.le_refl _) _
      have HB9 : Hid (Below w.heap.size w w9) := Lib.hid (bnext (bnext HB3.out hb5) hb59)
      have HV9 : Hid (OptsAt w9 (.slice (some ⟨g, 0, none⟩) l.length cap') l) := Lib.hid (hv5.below hb59 (Nat.le_refl _))
      have HG9 := Lib.hid (HG.out.below HB9.out (Nat.le_refl _))
      clear hb5 hv5 hb59
      simp only [pktCells] at hw9
      rw [← hw9]
      clear hw9
      obtain ⟨y0, y1⟩ := pairAt KP.out
      obtain ⟨x0, x1, x2, x3, x4, x5, x6, x7, x8, x9, x10, x11, x12⟩ := pktAt KX.out
      have y0 := cell_regrown y0
      have y1 := cell_regrown y1
      have x0 := cell_regrown x0
      have x1 := cell_regrown x1
      have x2 := cell_regrown x2
      have x3 := cell_regrown x3
      have x4 := cell_regrown x4
      have x5 := cell_regrown x5
      have x6 := cell_regrown x6
      have x7 := cell_regrown x7
      have x8 := cell_regrown x8
      have x9 := cell_regrown x9
      have x10 := cell_regrown x10
      have x11 := cell_regrown x11
      have x12 := cell_regrown x12
      have CA := Lib.hid (fun (d : Nat) (os : Array Obj) => Calls.regrown_of (forgeCheck a b 0 ⟨4, false, 0, 0, 0, 0, 0, 0, 0, 0, 0⟩ l (.slice (some ⟨g, 0, none⟩) l.length cap') data (Sort.grow (redrawn w9 d) os) (HG9.out.below (below_regrown w9 d os) (Nat.le_refl _)) HK.out (by omega) (HV9.out.below (below_regrown w9 d os) (Nat.le_refl _)) HSO.out (by omega)))
      have CB := Lib.hid (fun (d : Nat) (os : Array Obj) => Calls.regrown_of (refCheck a b 0 ⟨4, false, 0, 0, 0, 0, 0, 0, 0, 0, 0⟩ l (.slice (some ⟨g, 0, none⟩) l.length cap') data (Sort.grow (redrawn w9 d) os) HK.out (by omega) (HV9.out.below (below_regrown w9 d os) (Nat.le_refl _)) HSO.out (by omega)))
      have CC := Lib.hid (fun (d : Nat) (os : Array Obj) => Calls.regrown_of (forgeSays a b 0 ⟨4, false, 0, 0, 0, 0, 0, 0, 0, 0, 0⟩ l (.slice (some ⟨g, 0, none⟩) l.length cap') data (Sort.grow (redrawn w9 d) os) HK.out (by omega) (HV9.out.below (below_regrown w9 d os) (Nat.le_refl _)) HSO.out))
      have CD := Lib.hid (fun (d : Nat) (os : Array Obj) => Calls.regrown_of (refSays a b 0 ⟨4, false, 0, 0, 0, 0, 0, 0, 0, 0, 0⟩ l (.slice (some ⟨g, 0, none⟩) l.length cap') data (Sort.grow (redrawn w9 d) os) HK.out (by omega) (HV9.out.below (below_regrown w9 d os) (Nat.le_refl _)) HSO.out))
      have CE := Lib.hid (fun (d : Nat) (os : Array Obj) => Calls.regrown_of (forgeHears a b 0 ⟨4, false, 0, 0, 0, 0, 0, 0, 0, 0, 0⟩ l (.slice (some ⟨g, 0, none⟩) l.length cap') data (Sort.grow (redrawn w9 d) os) HK.out (by omega) (HV9.out.below (below_regrown w9 d os) (Nat.le_refl _)) HSO.out))
      have CF := Lib.hid (fun (d : Nat) (os : Array Obj) => Calls.regrown_of (refHears a b 0 ⟨4, false, 0, 0, 0, 0, 0, 0, 0, 0, 0⟩ l (.slice (some ⟨g, 0, none⟩) l.length cap') data (Sort.grow (redrawn w9 d) os) HK.out (by omega) (HV9.out.below (below_regrown w9 d os) (Nat.le_refl _)) HSO.out))
      generalize checkE (allM l) a b 0 data = E at *
      generalize saysB (allM l) a b 0 = sB at *
      generalize hearsB (allM l) a b 0 = hB at *
      refine wp_region_quiet_below (by kernel_rfl) (by kernel_rfl) ?_
      repeat (go_big_quiet_step (first | (go_at_call 11; exact CA.out _ _) | (go_at_call 12; exact CB.out _ _) | (go_at_call 13; exact CC.out _ _) | (go_at_call 14; exact CD.out _ _) | (go_at_call 15; exact CE.out _ _) | (go_at_call 16; exact CF.out _ _)))
      refine wpQuiet_nil ?_
      intro w10 hw'
      have hb10 : Below w9.heap.size w9 w10 := by obtain ⟨p, rfl⟩ := hw'; exact below_regrown _ _ _
      clear hw'
      go_wp2_with fail
      go_ret
      exact ⟨by simp, bnext HB9.out hb10⟩
    · skip
      have HOW := Lib.hid (World.ownsRow_made (e := 70) (size := 2) (w3.alloc (.cells #[.string a, .string b] 27)) #[] 0 (base := w3.heap.size + 1) (by simp) (by decide) rfl)
      have HOWS : Hid (World.ownsRow ((w3.alloc (.cells #[.string a, .string b] 27)).alloc (.cells #[] 70)) (w3.heap.size + 1) 70 2 (.slice (some ⟨w3.heap.size + 1, 0, none⟩) 0 0) 0 []) := Lib.hid (by have h := HOW.out; rw [show (w3.alloc (Obj.cells #[.string a, .string b] 27)).heap.size = w3.heap.size + 1 by simp] at h; exact h)
      have HNX : Hid (∀ (j : Nat) (u : Value), (l.flatMap fun o => o.cells.toList)[j]? = some u → ((w3.alloc (.cells #[.string a, .string b] 27)).alloc (.cells #[] 70)).cell? (ad.add j) = some u) := Lib.hid (fun j u hu => by
        obtain ⟨ad', had, hc⟩ := HNW.out j u hu
        cases had
        have hlt := World.block_lt_of_cell? _ _ hc
        rw [cell_alloc (by simp; have := HB3.out.size; omega), cell_alloc (by have := HB3.out.size; omega), HB3.out.cell hlt]
        exact hc)
      have HLN : Hid ((l.flatMap fun o => o.cells.toList).length = l.length * 2) := Lib.hid (flat_len l)
      have HL1 : Hid (∀ u ∈ (l.flatMap fun o => o.cells.toList), u.oneCell' = true) := Lib.hid (fun u hu => by
        obtain ⟨o, _, ho⟩ := List.mem_flatMap.1 hu
        exact oneO o u ho)
      go_wp2_with (first | (at_builtin; refine wpList_append_lies _ rfl _ _ 23 rfl (w3.heap.size + 1) 70 ii _ 2 24 Tryz.underlying23 hi hz0 hz1 hz2 rfl (by omega) (.slice (some ⟨w3.heap.size + 1, 0, none⟩) 0 0) 0 [] rfl HOWS.out ad l.length cap _ rfl HLN.out HNX.out HL1.out hpos (by unfold maxLen; omega) (by omega) (by simp) _ rfl ?_; intro g cap' w5 hown hgrow hat hgl; have HO := Lib.hid hown; have HGR := Lib.hid hgrow; clear hown hgrow hat))
      have hb5 : Below w3.heap.size w3 w5 := ((Below.refl _ _ |>.alloc (Nat.le_refl _) _).alloc (by simp) _).trans (below_grown HGR.out (by simp) (by simp; omega))
      have KP5 := Lib.hid (((Blk.new w3 #[.string a, .string b] 27).alloc (.cells #[] 70)).grown HGR.out (by simp [Value.ownBlock]))
      have hv5 : OptsAt w5 (.slice (some ⟨g, 0, none⟩) l.length cap') l := OptRow.opts (B := w3.heap.size + 1) (by unfold OptRow; have h := HO.out; rw [List.nil_append] at h; rw [Nat.zero_add] at h; exact h)
      have hw35 : w3.heap.size < w5.heap.size := KP5.out.lt
      obtain ⟨w9, hw9⟩ : ∃ w9, w9 = w5.alloc (.cells (pktCells ⟨4, false, 0, 0, 0, 0, 0, 0, 0, 0, 0⟩ (.slice (some ⟨g, 0, none⟩) l.length cap') data) 31) := ⟨_, rfl⟩
      have KP : Hid (Blk w9 w3.heap.size #[.string a, .string b] 27) := Lib.hid (by rw [hw9]; exact KP5.out.alloc _)
      have KX : Hid (Blk w9 w5.heap.size (pktCells ⟨4, false, 0, 0, 0, 0, 0, 0, 0, 0, 0⟩ (.slice (some ⟨g, 0, none⟩) l.length cap') data) 31) := Lib.hid (by rw [hw9]; exact Blk.new _ _ _)
      have hb59 : Below w5.heap.size w5 w9 := by rw [hw9]; exact (Below.refl _ _).alloc (Nat.le_refl _) _
      have HB9 : Hid (Below w.heap.size w w9) := Lib.hid (bnext (bnext HB3.out hb5) hb59)
      have HV9 : Hid (OptsAt w9 (.slice (some ⟨g, 0, none⟩) l.length cap') l) := Lib.hid (hv5.below hb59 (Nat.le_refl _))
      have HG9 := Lib.hid (HG.out.below HB9.out (Nat.le_refl _))
      clear hb5 hv5 hb59
      simp only [pktCells] at hw9
      rw [← hw9]
      clear hw9
      obtain ⟨y0, y1⟩ := pairAt KP.out
      obtain ⟨x0, x1, x2, x3, x4, x5, x6, x7, x8, x9, x10, x11, x12⟩ := pktAt KX.out
      have y0 := cell_regrown y0
      have y1 := cell_regrown y1
      have x0 := cell_regrown x0
      have x1 := cell_regrown x1
      have x2 := cell_regrown x2
      have x3 := cell_regrown x3
      have x4 := cell_regrown x4
      have x5 := cell_regrown x5
      have x6 := cell_regrown x6
      have x7 := cell_regrown x7
      have x8 := cell_regrown x8
      have x9 := cell_regrown x9
      have x10 := cell_regrown x10
      have x11 := cell_regrown x11
      have x12 := cell_regrown x12
      have CA := Lib.hid (fun (d : Nat) (os : Array Obj) => Calls.regrown_of (forgeCheck a b 1 ⟨4, false, 0, 0, 0, 0, 0, 0, 0, 0, 0⟩ l (.slice (some ⟨g, 0, none⟩) l.length cap') data (Sort.grow (redrawn w9 d) os) (HG9.out.below (below_regrown w9 d os) (Nat.le_refl _)) HK.out (by omega) (HV9.out.below (below_regrown w9 d os) (Nat.le_refl _)) HSO.out (by omega)))
      have CB := Lib.hid (fun (d : Nat) (os : Array Obj) => Calls.regrown_of (refCheck a b 1 ⟨4, false, 0, 0, 0, 0, 0, 0, 0, 0, 0⟩ l (.slice (some ⟨g, 0, none⟩) l.length cap') data (Sort.grow (redrawn w9 d) os) HK.out (by omega) (HV9.out.below (below_regrown w9 d os) (Nat.le_refl _)) HSO.out (by omega)))
      have CC := Lib.hid (fun (d : Nat) (os : Array Obj) => Calls.regrown_of (forgeSays a b 1 ⟨4, false, 0, 0, 0, 0, 0, 0, 0, 0, 0⟩ l (.slice (some ⟨g, 0, none⟩) l.length cap') data (Sort.grow (redrawn w9 d) os) HK.out (by omega) (HV9.out.below (below_regrown w9 d os) (Nat.le_refl _)) HSO.out))
      have CD := Lib.hid (fun (d : Nat) (os : Array Obj) => Calls.regrown_of (refSays a b 1 ⟨4, false, 0, 0, 0, 0, 0, 0, 0, 0, 0⟩ l (.slice (some ⟨g, 0, none⟩) l.length cap') data (Sort.grow (redrawn w9 d) os) HK.out (by omega) (HV9.out.below (below_regrown w9 d os) (Nat.le_refl _)) HSO.out))
      have CE := Lib.hid (fun (d : Nat) (os : Array Obj) => Calls.regrown_of (forgeHears a b 1 ⟨4, false, 0, 0, 0, 0, 0, 0, 0, 0, 0⟩ l (.slice (some ⟨g, 0, none⟩) l.length cap') data (Sort.grow (redrawn w9 d) os) HK.out (by omega) (HV9.out.below (below_regrown w9 d os) (Nat.le_refl _)) HSO.out))
      have CF := Lib.hid (fun (d : Nat) (os : Array Obj) => Calls.regrown_of (refHears a b 1 ⟨4, false, 0, 0, 0, 0, 0, 0, 0, 0, 0⟩ l (.slice (some ⟨g, 0, none⟩) l.length cap') data (Sort.grow (redrawn w9 d) os) HK.out (by omega) (HV9.out.below (below_regrown w9 d os) (Nat.le_refl _)) HSO.out))
      generalize checkE (allM l) a b 1 data = E at *
      generalize saysB (allM l) a b 1 = sB at *
      generalize hearsB (allM l) a b 1 = hB at *
      refine wp_region_quiet_below (by kernel_rfl) (by kernel_rfl) ?_
      repeat (go_big_quiet_step (first | (go_at_call 11; exact CA.out _ _) | (go_at_call 12; exact CB.out _ _) | (go_at_call 13; exact CC.out _ _) | (go_at_call 14; exact CD.out _ _) | (go_at_call 15; exact CE.out _ _) | (go_at_call 16; exact CF.out _ _)))
      refine wpQuiet_nil ?_
      intro w10 hw'
      have hb10 : Below w9.heap.size w9 w10 := by obtain ⟨p, rfl⟩ := hw'; exact below_regrown _ _ _
      clear hw'
      go_wp2_with fail
      go_ret
      exact ⟨by simp, bnext HB9.out hb10⟩
end Go.Proofs.YtjboillkhhefaaaGreatDoor
