/- The program's package forge: lacks. -/
import Derived.Test.YtjboillkhhefaaaGreatDoorFgd
import Derived.Test.YtjboillkhhefaaaGreatDoorAsb
set_option linter.unusedVariables false
namespace Go.Proofs.YtjboillkhhefaaaGreatDoor
open Go.RowKit

theorem lacksIs (c : Nat) (kind : Int) (m : MultiV) (w : World) (hc : w.cell? ⟨c, 0, none⟩ = some (.int .i64 kind)) :
    Calls Tryz.prog 116 #[.agg m.cells, .pointer (some ⟨c, 0, none⟩)] w fun e w' => e = .returned (.bool (m.kind == kind)) ∧ Below w.heap.size w w' := by
  have hlt := World.block_lt_of_cell? _ _ hc
  have hc1 := (cell_alloc (o := .cells m.cells 65) hlt).trans hc
  obtain ⟨m1, m2, m3, m4, m5, m6, m7⟩ := m
  simp only [MultiV.cells] at *
  go_enter Tryz.func116, Tryz.ntmps116
  go_wp2_with fail
  go_ret
  exact ⟨rfl, (Below.refl _ _).alloc (Nat.le_refl _) _⟩
theorem TellsKind.lacks (c : Nat) (kind : Int) : TellsKind 116 c kind := ⟨fun _ _ => by kernel_rfl, fun m w hc => lacksIs c kind m w hc⟩

/-- A store into a part of a block that is known whole. -/
theorem wpList_store_part {P : Program} {ops : Array Oper} {rest : List Oper} {o : Oper} {a : Act} {Q : Exit → Act → World → Prop} {w : World} (hgd : o.guard = none) (ty : TypeId) (x y : Operand) (ho : o.op = .store ty x y)
    (b k : Nat) (cs : Array Value) (hx : a.eval x = .pointer (some ⟨b, k, none⟩)) (hy : a.eval y = .agg cs) (T : TypeId) (old new : Array Value) (h : Blk w b old T) (hsz : k + cs.size ≤ old.size) (hi : (P.info? ty).map (·.size) = some cs.size) (h1 : ∀ v ∈ cs.toList, v.oneCell' = true)
    (hnew : (old.toList.take k ++ cs.toList ++ old.toList.drop (k + cs.size)).toArray = new)
    (hk : ∀ w', Blk w' b new T → w.grownBy w' (some b) → wpList P ops Q rest (a.put o.dst undef) w') : wpList P ops Q (o :: rest) a w := by
  have hst := run_storeCells_at P b k T cs.toList 0 old w h (by simpa using hsz) h1
  rw [Nat.add_zero, Array.length_toList, hnew] at hst
  have hr : (storeVar ty ⟨b, k, none⟩ (.agg cs)).run P w = .ok () (w.setRow b new) := by
    cases hq : P.info? ty with
    | none => simp [hq] at hi
    | some i =>
      have hs : cs.size = i.size := by simp [hq] at hi; omega
      simp [storeVar, sizeOf, typeInfo, hq, Value.cells, hs, hst]
  refine wpList_plain hgd fun K hK => ?_
  unfold Oper.wp execOp
  simp only [ho, hx, hy, Instr.storeAt, Instr.sureAddr, Sem.run_bind, Sem.run_pure, Result.andThen_ok, hr]
  exact hK _ _ (hk _ (setRow_heap w b old new T _ h) ⟨rfl, rfl, rfl, by simp, fun k _ hk => setRow_other w b k _ (fun e => hk (by simp [e]))⟩)
def flat3 (a b c : MultiV) : Array Value := #[.int .i64 a.kind, .int .i64 a.addr, .int .i64 a.prio, .int .i64 a.num, .int .i64 a.token, .int .i64 a.nonce, .string a.bytes, .int .i64 b.kind, .int .i64 b.addr, .int .i64 b.prio, .int .i64 b.num, .int .i64 b.token, .int .i64 b.nonce, .string b.bytes, .int .i64 c.kind, .int .i64 c.addr, .int .i64 c.prio, .int .i64 c.num, .int .i64 c.token, .int .i64 c.nonce, .string c.bytes]
theorem flat3_0 (a b c m : MultiV) : ((flat3 a b c).toList.take 0 ++ m.cells.toList ++ (flat3 a b c).toList.drop (0 + m.cells.size)).toArray = flat3 m b c := rfl
theorem flat3_1 (a b c m : MultiV) : ((flat3 a b c).toList.take 7 ++ m.cells.toList ++ (flat3 a b c).toList.drop (7 + m.cells.size)).toArray = flat3 a m c := rfl
theorem flat3_2 (a b c m : MultiV) : ((flat3 a b c).toList.take 14 ++ m.cells.toList ++ (flat3 a b c).toList.drop (14 + m.cells.size)).toArray = flat3 a b m := rfl
theorem one21 (a b c : MultiV) : ∀ v ∈ (flat3 a b c).toList, v.oneCell' = true := by
  intro v hv
  simp [flat3] at hv
  rcases hv with rfl | rfl | rfl | rfl | rfl | rfl | rfl | rfl | rfl | rfl | rfl | rfl | rfl | rfl | rfl | rfl | rfl | rfl | rfl | rfl | rfl <;> rfl
/-- What lacks of a datagram's options, if something does. -/
def LacksPost (l : List MultiV) (w : World) (e : Ending) (w' : World) : Prop := Below w.heap.size w w' ∧ ∃ (a b c : MultiV) (err : Value), e = .returned (.tuple #[.agg (flat3 a b c), err]) ∧
  ((firstM l 4 = some a ∧ firstM l 6 = some b ∧ firstM l 5 = some c ∧ err = .nilIface) ∨ (∃ p : Int, (firstM l 4 = none ∨ firstM l 6 = none ∨ firstM l 5 = none) ∧ err = .iface 126 (.agg #[.int .i64 p, .int .i64 8])))

set_option maxRecDepth 100000 in
set_option maxHeartbeats 4000000 in
theorem forgeLacks (B : Nat) (l : List MultiV) (v : Value) (w : World) (hB : B ≤ w.heap.size) (hl : l.length ≤ 1000) (hv : MultisAt B w v l) :
    Calls Tryz.prog 63 #[v] w (LacksPost l w) := by
  have HV := Lib.hid hv
  clear hv
  have i0 : ∀ W, (Instr.index 200 (.agg #[.int .i64 4, .int .i64 6, .int .i64 5]) (.int .i64 0)).run Tryz.prog W = .ok (.int .i64 4) W := fun W => by kernel_rfl
  have i1 : ∀ W, (Instr.index 200 (.agg #[.int .i64 4, .int .i64 6, .int .i64 5]) (.int .i64 1)).run Tryz.prog W = .ok (.int .i64 6) W := fun W => by kernel_rfl
  have i2 : ∀ W, (Instr.index 200 (.agg #[.int .i64 4, .int .i64 6, .int .i64 5]) (.int .i64 2)).run Tryz.prog W = .ok (.int .i64 5) W := fun W => by kernel_rfl
  have I0 := Lib.hid i0
  have I1 := Lib.hid i1
  have I2 := Lib.hid i2
  clear i0 i1 i2
  go_enter Tryz.func63, Tryz.ntmps63
  go_wp2_with fail
  go_loopw [9] (fun c wr => ∃ (i : Nat) (x y z : MultiV), i ≤ 3 ∧ c = .int .i64 i ∧ Blk wr (w.heap.size + 1) (flat3 x y z) 127 ∧ (0 < i → firstM l 4 = some x) ∧ (1 < i → firstM l 6 = some y) ∧ (2 < i → firstM l 5 = some z) ∧ Blk wr w.heap.size (flat3 zeroM zeroM zeroM) 127 ∧ Below w.heap.size w wr) (fun c _ => 3 - (intOf c).toNat)
  case atStart => exact ⟨0, zeroM, zeroM, zeroM, by omega, rfl, Blk.new2 w _ (flat3 zeroM zeroM zeroM) _, by omega, by omega, by omega, (Blk.new w (flat3 zeroM zeroM zeroM) _).alloc _, ((Below.refl _ _).alloc (Nat.le_refl _) _).alloc (by simp) _⟩
  case round =>
    obtain ⟨i, x, y, z, hi, rfl, ko, hx, hy, hz, kr, hb⟩ := hrel
    have KO := Lib.hid ko
    have KR := Lib.hid kr
    have HB := Lib.hid hb
    have hlo := ko.lt
    have HX := Lib.hid (And.intro hx (And.intro hy hz))
    have hsz := hb.size
    have HVr : Hid (MultisAt B wr v l) := Lib.hid (World.ownsRow.kept HV.out (row := none) ⟨hb.os, hb.tape, hb.output, hb.size, fun k hk _ => hb.block k hk⟩ (by cases v.ownBlock <;> simp))
    clear ko kr hb hx hy hz
    by_cases h3 : i < 3
    · obtain ⟨kind, hkind, hI⟩ : ∃ kind : Int, ((i = 0 ∧ kind = 4) ∨ (i = 1 ∧ kind = 6) ∨ (i = 2 ∧ kind = 5)) ∧ ∀ W, (Instr.index 200 (.agg #[.int .i64 4, .int .i64 6, .int .i64 5]) (.int .i64 i)).run Tryz.prog W = .ok (.int .i64 kind) W := by
        match i, h3 with
        | 0, _ => exact ⟨4, .inl ⟨rfl, rfl⟩, I0.out⟩
        | 1, _ => exact ⟨6, .inr (.inl ⟨rfl, rfl⟩), I1.out⟩
        | 2, _ => exact ⟨5, .inr (.inr ⟨rfl, rfl⟩), I2.out⟩
      have HKD := Lib.hid hkind
      have h3' : (i : Int) < 3 := by omega
      clear hkind
      go_wp2_with fail
      refine (mpIndex B wr.heap.size _ kind l v _ (by simp; omega) hl (World.ownsRow.alloc HVr.out _) (TellsKind.lacks _ _) (by simp)).mono ?_
      rintro e w2 ⟨rfl, hb2⟩
      have HB2 := Lib.hid hb2
      have KO2 := Lib.hid ((KO.out.alloc _).below hb2 (by simp; omega))
      have KR2 := Lib.hid ((KR.out.alloc _).below hb2 (by simp; omega))
      have HB3 : Hid (Below w.heap.size w w2) := Lib.hid ((HB.out.alloc hsz _).trans (hb2.mono (by simp; omega)))
      have HV2 : Hid (MultisAt B w2 v l) := Lib.hid (World.ownsRow.kept (World.ownsRow.alloc HVr.out (.cells #[.int .i64 kind] 3)) (row := none) ⟨hb2.os, hb2.tape, hb2.output, hb2.size, fun k hk _ => hb2.block k hk⟩ (by cases v.ownBlock <;> simp))
      have HIS := Lib.hid (idxM_some l kind)
      have HIN := Lib.hid (idxM_neg l kind)
      have HIR := Lib.hid (idxM_range l kind)
      have hsz2 := HB3.out.size
      clear hb2 hI
      generalize idxM l kind = n at *
      by_cases hn : n < 0
      · have HF := Lib.hid (HIN.out hn)
        go_wp2_with (first | (refine wpList_load_blk rfl 127 _ rfl (w.heap.size + 1) rfl 127 _ _ KO2.out Tryz.underlying127 rfl (by kernel_rfl) ?_) | (refine wpList_store_blk rfl 127 _ _ rfl w.heap.size (flat3 x y z) rfl rfl 127 _ KR2.out rfl (by kernel_rfl) (one21 _ _ _) ?_; intro w9 hk9 hg9))
        refine bodyPost_ret (results_cell_tmp rfl _ _ w.heap.size 127 _ _ _ _ rfl rfl hk9 Tryz.underlying127 rfl (by kernel_rfl)) rfl ?_
        refine ⟨HB3.out.trans (below_grown hg9 (by omega) hsz2), x, y, z, _, rfl, .inr ⟨i, ?_, rfl⟩⟩
        rcases HKD.out with ⟨_, rfl⟩ | ⟨_, rfl⟩ | ⟨_, rfl⟩
        · exact .inl HF.out
        · exact .inr (.inl HF.out)
        · exact .inr (.inr HF.out)
      · obtain ⟨n, rfl⟩ : ∃ k : Nat, n = k := ⟨n.toNat, by omega⟩
        obtain ⟨hn2, hf⟩ := HIS.out (by omega)
        simp only [Int.toNat_natCast] at hn2 hf
        have HF := Lib.hid hf
        rcases MultisAt.form HV2.out with ⟨rfl, rfl⟩ | ⟨g, cap, rfl, hBg, hgl, hcap⟩
        · simp at hn2
        have hn1 : (n : Int) < l.length := by omega
        have hn3 : (n : Int) < cap := by omega
        have hn0 : (0 : Int) ≤ n := by omega
        have q0 := MultisAt.cell HV2.out n 0 hn2 (by omega)
        have q1 := MultisAt.cell HV2.out n 1 hn2 (by omega)
        have q2 := MultisAt.cell HV2.out n 2 hn2 (by omega)
        have q3 := MultisAt.cell HV2.out n 3 hn2 (by omega)
        have q4 := MultisAt.cell HV2.out n 4 hn2 (by omega)
        have q5 := MultisAt.cell HV2.out n 5 hn2 (by omega)
        have q6 := MultisAt.cell HV2.out n 6 hn2 (by omega)
        generalize l[n] = m at *
        obtain ⟨m1, m2, m3, m4, m5, m6, m7⟩ := m
        simp [MultiV.cells] at q0 q1 q2 q3 q4 q5 q6
        clear hf
        rcases HKD.out with ⟨rfl, rfl⟩ | ⟨rfl, rfl⟩ | ⟨rfl, rfl⟩
        · go_wp2_with (first | (refine wpList_store_part rfl 65 _ _ rfl (w.heap.size + 1) 0 (MultiV.cells ⟨m1, m2, m3, m4, m5, m6, m7⟩) rfl rfl 127 _ _ KO2.out (Nat.le_of_ble_eq_true rfl) (by kernel_rfl) (oneM ⟨m1, m2, m3, m4, m5, m6, m7⟩) (flat3_0 _ _ _ ⟨m1, m2, m3, m4, m5, m6, m7⟩) ?_; intro w9 hk9 hg9))
          go_roundw
          case rel => exact ⟨1, ⟨m1, m2, m3, m4, m5, m6, m7⟩, y, z, by omega, by go_num, hk9, fun _ => HF.out, by omega, by omega, KR2.out.grown hg9 (by simp), HB3.out.trans (below_grown hg9 (by omega) hsz2)⟩
          case measure => simp [intOf]
        · go_wp2_with (first | (refine wpList_store_part rfl 65 _ _ rfl (w.heap.size + 1) 7 (MultiV.cells ⟨m1, m2, m3, m4, m5, m6, m7⟩) rfl rfl 127 _ _ KO2.out (Nat.le_of_ble_eq_true rfl) (by kernel_rfl) (oneM ⟨m1, m2, m3, m4, m5, m6, m7⟩) (flat3_1 _ _ _ ⟨m1, m2, m3, m4, m5, m6, m7⟩) ?_; intro w9 hk9 hg9))
          go_roundw
          case rel => exact ⟨2, x, ⟨m1, m2, m3, m4, m5, m6, m7⟩, z, by omega, by go_num, hk9, fun _ => HX.out.1 (by omega), fun _ => HF.out, by omega, KR2.out.grown hg9 (by simp), HB3.out.trans (below_grown hg9 (by omega) hsz2)⟩
          case measure => simp [intOf]
        · go_wp2_with (first | (refine wpList_store_part rfl 65 _ _ rfl (w.heap.size + 1) 14 (MultiV.cells ⟨m1, m2, m3, m4, m5, m6, m7⟩) rfl rfl 127 _ _ KO2.out (Nat.le_of_ble_eq_true rfl) (by kernel_rfl) (oneM ⟨m1, m2, m3, m4, m5, m6, m7⟩) (flat3_2 _ _ _ ⟨m1, m2, m3, m4, m5, m6, m7⟩) ?_; intro w9 hk9 hg9))
          go_roundw
          case rel => exact ⟨3, x, y, ⟨m1, m2, m3, m4, m5, m6, m7⟩, by omega, by go_num, hk9, fun _ => HX.out.1 (by omega), fun _ => HX.out.2.1 (by omega), fun _ => HF.out, KR2.out.grown hg9 (by simp), HB3.out.trans (below_grown hg9 (by omega) hsz2)⟩
          case measure => simp [intOf]
    · obtain rfl : i = 3 := by omega
      go_wp2_with (first | (refine wpList_load_blk rfl 127 _ rfl (w.heap.size + 1) rfl 127 _ _ KO.out Tryz.underlying127 rfl (by kernel_rfl) ?_) | (refine wpList_store_blk rfl 127 _ _ rfl w.heap.size (flat3 x y z) rfl rfl 127 _ KR.out rfl (by kernel_rfl) (one21 _ _ _) ?_; intro w9 hk9 hg9))
      refine bodyPost_ret (results_cell_tmp rfl _ _ w.heap.size 127 _ _ _ _ rfl rfl hk9 Tryz.underlying127 rfl (by kernel_rfl)) rfl ?_
      exact ⟨HB.out.trans (below_grown hg9 (by omega) hsz), x, y, z, _, rfl, .inl ⟨HX.out.1 (by omega), HX.out.2.1 (by omega), HX.out.2.2 (by omega), rfl⟩⟩
end Go.Proofs.YtjboillkhhefaaaGreatDoor
