/- The reference's SHA-256 (layer 5): Of. -/
import Derived.Test.YtjboillkhhefaaaGreatDoorRefb
import Derived.Deep.AppendLies
import Derived.Deep.DrawnRows
import Derived.Lib.QuietBelow
set_option linter.unusedVariables false
namespace Go.Proofs.YtjboillkhhefaaaGreatDoor
open Go.RowKit

theorem info_u32 : (Tryz.prog.info? 54).map (fun i => (i.zero, i.size, i.bytes)) = some (some (.int .u32 0), 1, 4) := by kernel_rfl
/-- A row of numbers of the call's own (from block B on). -/
def Row32 (B : Nat) (w : World) (v : Value) (l : List Nat) : Prop := w.ownsRow B 54 1 v l.length (l.map fun (n : Nat) => Value.int .u32 n)
theorem Row32.form {B w v l} (h : Row32 B w v l) (hl : 0 < l.length) : ∃ g cap, v = .slice (some ⟨g, 0, none⟩) l.length cap ∧ B ≤ g ∧ g < w.heap.size := World.ownsRow.form h hl
theorem Row32.cell {B w l g n c} (h : Row32 B w (.slice (some ⟨g, 0, none⟩) n c) l) (i : Nat) (hi : i < l.length) : w.cell? ⟨g, i, none⟩ = some (.int .u32 (l.getD i 0 : Nat)) := by
  have h1 := World.ownsRow.cells h (g := g) rfl i (.int .u32 (l.getD i 0 : Nat)) (by simp [hi, List.getD])
  have hadd : (⟨g, 0, none⟩ : Addr).add i = ⟨g, i, none⟩ := by unfold Addr.add; split <;> simp_all
  rwa [hadd] at h1
/-- Cells known. -/
def CellsAt (w : World) (g : Nat) (l : List Nat) : Prop := g < w.heap.size ∧ ∀ i, i < l.length → w.cell? ⟨g, i, none⟩ = some (.int .u32 (l.getD i 0 : Nat))
theorem CellsAt.later {w w' : World} {g : Nat} {l : List Nat} (h : CellsAt w g l) {C : Nat} (hb : Below C w w') (hg : g < C) : CellsAt w' g l :=
  ⟨by have h1 := hb.size; have h2 := h.1; exact Nat.lt_of_lt_of_le h2 h1, fun i hi => (hb.cell (p := ⟨g, i, none⟩) hg).trans (h.2 i hi)⟩
theorem CellsAt.of_blk {w : World} {g : Nat} {l : List Nat} {T : TypeId} (h : Blk w g (u32s l) T) : CellsAt w g l :=
  ⟨h.lt, fun i hi => by rw [h.cell i, u32s_get l i hi]⟩
theorem CellsAt.setOther {w : World} {g : Nat} {l : List Nat} (h : CellsAt w g l) {p : Addr} (hp : g ≠ p.block) (v : Value) : CellsAt (w.setCell p v) g l :=
  ⟨by simp [World.setCell]; exact h.1, fun i hi => by
    have h1 := h.2 i hi
    unfold World.cell? at *
    rw [Below.heap_setCell _ _ _ _ hp]
    exact h1⟩
theorem shaPad_size (s : ByteArray) : ∃ n, (shaPad s s.size).size = 64 * n := by
  refine ⟨(s.size + 1 + (119 - s.size % 64) % 64 + 8) / 64, ?_⟩
  rw [shaPad, ByteArray.size_append, ByteArray.size_append, oneB_size, repB_size, beB_size]
  omega
theorem shaPad_le (s : ByteArray) : (shaPad s s.size).size ≤ s.size + 73 := by
  rw [shaPad, ByteArray.size_append, ByteArray.size_append, oneB_size, repB_size, beB_size]
  omega
def shaSched (s : ByteArray) (k : Nat) : List Nat := shaGo (shaHead s (min k 16)) (k - 16)
theorem shaSched_length (s : ByteArray) (k : Nat) : (shaSched s k).length = k := by rw [shaSched, shaGo_length, shaHead_length]; omega
theorem shaSched_lt (s : ByteArray) (k : Nat) : Lt32 (shaSched s k) := shaGo_lt (shaHead_lt s _) _
theorem shaSched_low (s : ByteArray) (k : Nat) (h : k < 16) : shaSched s (k + 1) = shaSched s k ++ [ofB (s.extract (4 * k) (4 * k + 4))] := by
  unfold shaSched
  rw [show k + 1 - 16 = 0 from by omega, show k - 16 = 0 from by omega, show min (k + 1) 16 = k + 1 from by omega, show min k 16 = k from by omega]
  exact shaHead_succ s k
theorem shaSched_high (s : ByteArray) (k : Nat) (h : 16 ≤ k) : shaSched s (k + 1) = shaSched s k ++ [shaNext (shaSched s k) k] := by
  have h1 := shaSched_length s k
  unfold shaSched at *
  rw [show min k 16 = 16 from by omega] at *
  rw [show min (k + 1) 16 = 16 from by omega, show k + 1 - 16 = (k - 16) + 1 from by omega, shaGo, h1]
theorem shaSched_all (s : ByteArray) : shaSched s 64 = shaW s := rfl
theorem shaBlock_comm (h : List Nat) (s : ByteArray) : shaBlock h s = List.zipWith add2 h (shaRounds h (shaW s) 64) := by
  unfold shaBlock
  rw [List.zipWith_comm]
  congr 1
  funext a b
  unfold add2
  rw [Nat.add_comm]

theorem news32 {w : World} {b : Addr} {x : Int} {k : Nat} (hx : x = (k : Nat)) (hc : w.cell? b = some (.int .u32 x)) : ∀ j u, ([k].map fun (n : Nat) => Value.int .u32 n)[j]? = some u → w.cell? (b.add j) = some u := by
  intro j u hu
  cases j with
  | zero => simp at hu; subst hu; subst hx; simpa [Addr.add] using hc
  | succ j => simp at hu
theorem wpList_append32 {ops : Array Oper} {rest : List Oper} {o : Oper} {a : Act} {Q : Exit → Act → World → Prop} {w : World} (hgd : o.guard = none) (s x : Operand)
    (ho : o.op = .call { callee := .builtin .append, args := #[s, x], argTypes := #[250, 250] })
    (B : Nat) (v : Value) (l : List Nat) (hs : a.eval s = v) (h : Row32 B w v l) (ad : Addr) (m c : Nat) (news : List Nat) (hx : a.eval x = .slice (some ad) m c) (hm : m = news.length) (hn : ∀ j u, (news.map fun (n : Nat) => Value.int .u32 n)[j]? = some u → w.cell? (ad.add j) = some u)
    (h0 : 0 < m) (r : Nat) (hr : l.length + m = r) (hl : r ≤ 1000) (hB : B ≤ w.heap.size)
    (hk : ∀ g cap w', Row32 B w' (.slice (some ⟨g, 0, none⟩) r cap) (l ++ news) → w.grownBy w' v.ownBlock → (v.ownBlock = some g ∨ g = w.heap.size) → g < w'.heap.size → wpList Tryz.prog ops Q rest (a.put o.dst (.slice (some ⟨g, 0, none⟩) r cap)) w') : wpList Tryz.prog ops Q (o :: rest) a w := by
  obtain ⟨ii, hi, hz0, hz1, hz2⟩ := info_parts info_u32
  subst hm; subst hr
  refine wpList_append_lies w hgd s x 250 ho B 54 ii _ 1 4 Tryz.underlying250 hi hz0 hz1 hz2 rfl (by omega) v l.length _ hs h ad news.length c _ hx (by simp) hn (by intro u hu; simp at hu; obtain ⟨y, _, rfl⟩ := hu; rfl) h0 (by unfold maxLen; omega) (by omega) hB _ rfl ?_
  intro g cap w' h1 h2 h3 h4
  refine hk g cap w' ?_ h2 h3 h4
  unfold Row32
  rw [List.length_append, List.map_append]
  exact h1
theorem append_keeps {w : World} {g n cap c : Nat} {l : List Nat} {B : Nat} {ad : Addr} {x : Int} {ty : TypeId} (hown : Row32 B w (.slice (some ⟨g, 0, none⟩) n cap) l) (hc : w.cell? ad = some (.int .u32 x)) (hl : l.length + 1 ≤ 1000) :
    ∀ v' w', (Builtin.append_ #[250, 250] ty #[.slice (some ⟨g, 0, none⟩) n cap, .slice (some ad) 1 c]).run Tryz.prog w = .ok v' w' → ∀ i, i < l.length → w'.cell? ⟨g, i, none⟩ = w.cell? ⟨g, i, none⟩ := by
  obtain ⟨ii, hi, hz0, hz1, hz2⟩ := info_parts info_u32
  intro v' w' hr i hil
  have ht := Tryz.underlying250
  obtain ⟨hx, hown⟩ := hown
  rcases hown with ⟨h0, _⟩ | ⟨g', cap', cur, hv, hBg, hg, hlc, hm, hs, htk⟩
  · simp at h0
  simp only [Value.slice.injEq, Option.some.injEq, Addr.mk.injEq, and_true] at hv
  obtain ⟨rfl, rfl, rfl⟩ := hv
  have hlm : l.length + 1 ≤ maxLen := by unfold maxLen; omega
  have hnews : ∀ j u, [Value.int .u32 x][j]? = some u → w.cell? (ad.add j) = some u := by
    intro j u hu
    cases j with
    | zero => simp at hu; subst hu; simpa [Addr.add] using hc
    | succ j => simp at hu
  by_cases hroom : l.length + 1 ≤ cap
  · have hlt : l.length < cur.size := by omega
    have hcl : w.cell? ⟨g, l.length, none⟩ = some cur[l.length] := by simp [World.cell?, hg, hlt]
    have hfz : w.frozen? ⟨g, l.length, none⟩ = false := by simp [World.frozen?, hg]
    have hf := run_firstCells_some (P := Tryz.prog) w 1 1 ad 1 c [Value.int .u32 x] rfl hnews
    have hst : (store (⟨g, l.length, none⟩ : Addr) (.int .u32 x)).run Tryz.prog w = .ok () (w.setCell ⟨g, l.length, none⟩ (.int .u32 x)) := by
      rw [run_store Tryz.prog w _ _ _ rfl, hcl]
      simp [hfz]
    have hadd : (⟨g, 0, none⟩ : Addr).add l.length = ⟨g, l.length, none⟩ := by unfold Addr.add; split <;> simp_all
    have hadd0 : (⟨g, l.length, none⟩ : Addr).add 0 = ⟨g, l.length, none⟩ := by simp [Addr.add]
    have e : (Builtin.append_ #[250, 250] ty #[.slice (some ⟨g, 0, none⟩) l.length cap, .slice (some ad) 1 c]).run Tryz.prog w = .ok (.slice (some ⟨g, 0, none⟩) (l.length + 1) cap) (w.setCell ⟨g, l.length, none⟩ (.int .u32 x)) := by
      simp [Builtin.append_, run_underlying ht, sizeOf, typeInfo, hi, hz1, Builtin.lenOf, hroom, hf, hadd, storeCells, hadd0, hst]
    rw [e] at hr
    cases hr
    simp [World.cell?, World.setCell, Array.getElem?_modify, hg]
    rw [Array.getElem?_setIfInBounds_ne (by omega)]
  · have holds : ∀ j u, (l.map fun (n : Nat) => Value.int .u32 n)[j]? = some u → w.cell? ((⟨g, 0, none⟩ : Addr).add j) = some u := World.ownsRow.cells (g := g) ⟨hx, .inr ⟨g, cap, cur, rfl, hBg, hg, hlc, hm, hs, htk⟩⟩ rfl
    have hr2 := run_append_grow (P := Tryz.prog) w 250 ty 54 ii (.int .u32 0) ht hi hz0 ⟨g, 0, none⟩ l.length cap (l.map fun (n : Nat) => Value.int .u32 n) (by rw [hz1]; simp) holds ad 1 c [.int .u32 x] (by rw [hz1]; rfl) hnews (by omega) (by unfold maxLen at hlm; omega) (growslice_fits (by omega) (by rw [hz2]; omega))
    rw [hr2] at hr
    cases hr
    have hgl : g < w.heap.size := (Array.getElem?_eq_some_iff.1 hg).1
    show ((w.drew).alloc _).cell? _ = _
    simp only [World.cell?]
    rw [Below.heap_alloc _ _ _ (by exact hgl)]
    rfl
theorem step_append32 {ops : Array Oper} {o : Oper} {a : Act} {K : Act → World → Prop} {Q : Exit → Act → World → Prop} {E : Prop} {w : World} (hgd : o.guard = none) (s x : Operand)
    (ho : o.op = .call { callee := .builtin .append, args := #[s, x], argTypes := #[250, 250] })
    (B : Nat) (g n cap : Nat) (l : List Nat) (hs : a.eval s = .slice (some ⟨g, 0, none⟩) n cap) (h : Row32 B w (.slice (some ⟨g, 0, none⟩) n cap) l) (ad : Addr) (c : Nat) (z : Int) (hx : a.eval x = .slice (some ad) 1 c) (hc : w.cell? ad = some (.int .u32 z)) (hz : 0 ≤ z)
    (hl : l.length + 1 ≤ 1000) (hB : B ≤ w.heap.size)
    (hk : ∀ g' cap' w', Row32 B w' (.slice (some ⟨g', 0, none⟩) (n + 1) cap') (l ++ [z.toNat]) → w.grownBy w' (some g) → g' < w'.heap.size → (∀ i, i < l.length → w'.cell? ⟨g, i, none⟩ = w.cell? ⟨g, i, none⟩) → K (a.put o.dst (.slice (some ⟨g', 0, none⟩) (n + 1) cap')) w') :
    if Region.wanted o (yielded ops a.tmps) = true then Oper.wp Tryz.prog o a w K Q else E := by
  obtain ⟨ii, hi, hz0, hz1, hz2⟩ := info_parts info_u32
  have hw : Region.wanted o (yielded ops a.tmps) = true := by simp [Region.wanted, hgd]
  rw [if_pos hw]
  have hn : n = l.length := by
    rcases h.2 with ⟨h0, _⟩ | ⟨_, _, _, hv, _⟩
    · simp at h0
    · simp at hv; exact hv.2.1
  subst hn
  obtain ⟨g', cap', w', hr, h2, h3, h4, h5⟩ := run_append_lies (P := Tryz.prog) w 250 o.type B 54 ii _ 1 4 Tryz.underlying250 hi hz0 hz1 hz2 rfl (by omega) _ l.length _ h ad 1 c ([z.toNat].map fun (n : Nat) => Value.int .u32 n) (by simp)
    (news32 (x := z) (k := z.toNat) (by omega) hc) (by intro u hu; simp at hu; subst hu; rfl) (by omega) (by unfold maxLen; omega) (by omega) hB _ rfl
  have hkp := append_keeps h hc hl _ _ hr
  unfold Oper.wp execOp
  simp only [ho, resolve, invoke, builtin, Sem.run_bind, Sem.run_pure, Result.andThen_ok, List.map_toArray, List.map_cons, List.map_nil, hs, hx, hr]
  refine hk g' cap' w' ?_ h3 h5 hkp
  unfold Row32
  rw [List.length_append, List.map_append]
  exact h2
theorem cell_new (w : World) (v : Value) (T : TypeId) : (w.alloc (.cells #[v] T)).cell? ⟨w.heap.size, 0, none⟩ = some v := by simp
theorem cell_alloc {w : World} {o : Obj} {p : Addr} (hp : p.block < w.heap.size) : (w.alloc o).cell? p = w.cell? p := by
  unfold World.cell?; rw [Below.heap_alloc _ _ _ hp]
theorem below_row {B : Nat} {w w' : World} {v : Value} {l : List Nat} (h : Row32 B w v l) (hg : w.grownBy w' v.ownBlock) (hB : B ≤ w.heap.size) : Below B w w' :=
  ⟨hg.os, hg.tape, hg.output, hg.size, fun k hk => hg.block k (by omega) (fun e => by have := (World.ownsRow.lt h k e.symm).1; omega)⟩

theorem news32' {w : World} {T : TypeId} {x : Int} (b : Nat) (hb : b = w.heap.size) (hx : 0 ≤ x) : ∀ j u, ([x.toNat].map fun (n : Nat) => Value.int .u32 n)[j]? = some u → (w.alloc (.cells #[.int .u32 x] T)).cell? ((⟨b, 0, none⟩ : Addr).add j) = some u := by
  subst hb
  exact news32 (x := x) (k := x.toNat) (by omega) (by simp)
theorem below_less {B C : Nat} {w w' : World} (h : Below B w w') (hc : C ≤ B) : Below C w w' := ⟨h.os, h.tape, h.output, h.size, fun k hk => h.block k (by omega)⟩
theorem next_wrap (l : List Nat) (k X Y Z U : Nat) (hX : l.getD (k - 15) 0 = X) (hY : l.getD (k - 2) 0 = Y) (hZ : l.getD (k - 16) 0 = Z) (hU : l.getD (k - 7) 0 = U) (x15 : X < 4294967296) (x2 : Y < 4294967296) :
    IntKind.u32.wrap (IntKind.u32.wrap (IntKind.u32.wrap ((Z : Int) + bits BinOp.xor IntKind.u32 (bits BinOp.xor IntKind.u32 (ror32 X 7 : Nat) (ror32 X 18 : Nat)) ((X : Int) / 8)) + (U : Int)) + bits BinOp.xor IntKind.u32 (bits BinOp.xor IntKind.u32 (ror32 Y 17 : Nat) (ror32 Y 19 : Nat)) ((Y : Int) / 1024)) = (shaNext l k : Int) := by
  rw [low_eq X _ _ (ror32_lt _ _ x15) (ror32_lt _ _ x15) x15 8 8 rfl, low_eq Y _ _ (ror32_lt _ _ x2) (ror32_lt _ _ x2) x2 1024 1024 rfl, next_eq]
  congr 1
  simp only [shaNext, hX, hY, hZ, hU]
theorem row_next {B : Nat} {w : World} {v : Value} {l : List Nat} {z : Int} {n : Nat} (h : Row32 B w v (l ++ [z.toNat])) (hz : z = (n : Int)) : Row32 B w v (l ++ [n]) := by
  subst hz
  rw [Int.toNat_natCast] at h
  exact h
theorem wrap_nonneg (x : Int) : 0 ≤ IntKind.u32.wrap x := by rw [IntKind.wrap_u32]; exact Int.emod_nonneg _ (by decide)
theorem ofB_lt4 (s : ByteArray) (h : s.size ≤ 4) : ofB s < 4294967296 := by
  have h1 := ofB_lt s
  have h3 := Nat.pow_le_pow_right (n := 256) (by omega) h
  omega

theorem refRorB (x : Nat) (m : Int) (hx : x < 4294967296) (h1 : 1 ≤ m) (h31 : m ≤ 31) (w : World) :
    Calls Tryz.prog 161 #[.int .u32 x, .int .i64 m] w fun e w' => e = .returned (.int .u32 (ror32 x m.toNat : Nat)) ∧ Below w.heap.size w w' :=
  (refRor x m hx h1 h31 w).mono fun e w' ⟨he, n, hw⟩ => ⟨he, by rw [hw]; exact below_drewN (Below.refl _ _) n⟩
set_option maxRecDepth 100000 in
set_option maxHeartbeats 40000000 in
theorem refShaOf (s : ByteArray) (w : World) (hs : s.size ≤ 549755813888) :
    Calls Tryz.prog 124 #[.string s] w fun e w' => e = .returned (.string (shaOf s)) ∧ Below w.heap.size w w' := by
  obtain ⟨ii, hi, hz0, hz1, hz2⟩ := info_parts info_u32
  obtain ⟨n, hn⟩ := shaPad_size s
  have hp := shaPad_le s
  have HOF : Hid (shaOf s = shaText (shaBlocks shaH0 (shaPad s s.size) n)) := by
    show _ = _
    rw [shaOf, hn, show 64 * n / 64 = n from by omega]
  go_enter Tryz.func124, Tryz.ntmps124
  go_wp2_with (first | (refine wpList_buildSlice rfl 250 8 _ rfl (.slice (some ⟨w.heap.size, 0, none⟩) 8 8) (w.alloc (.cells (u32s shaH0) 54)) (by kernel_rfl) ?_))
  refine (refPad s _ hs).mono ?_
  rintro e w1 ⟨rfl, hb1⟩
  have k0 : Blk w1 w.heap.size (u32s shaH0) 54 := (Blk.new w _ _).below hb1 (by simp)
  have hb0 : Below w.heap.size w w1 := ((Below.refl _ _).alloc (Nat.le_refl _) _).trans (hb1.mono (by simp))
  clear hb1
  generalize hP : shaPad s s.size = P at *
  have HN := Lib.hid hn
  have hp2 : P.size ≤ 549755814000 := by omega
  clear hn hp hP
  go_wp2_with fail
  go_loopw [5] (fun c wr => ∃ j : Nat, j ≤ n ∧ c = .int .i64 (64 * (j : Int)) ∧ Blk wr w.heap.size (u32s (shaBlocks shaH0 P j)) 54 ∧ Below w.heap.size w wr) (fun c _ => 64 * n - (intOf c).toNat)
  case atStart => exact ⟨0, by omega, rfl, k0, hb0⟩
  case round =>
    clear k0 hb0
    obtain ⟨j, hj, rfl, k0, hb0⟩ := hrel
    by_cases hlt : j < n
    · have hh8 := shaBlocks_length shaH0 P rfl j
      have hhl := Lt32.blocks Lt32.H0 P j
      have HNX : Hid (shaBlocks shaH0 P (j + 1) = shaBlock (shaBlocks shaH0 P j) (P.extract (64 * j) (64 * j + 64))) := rfl
      generalize shaBlocks shaH0 P j = h at *
      have H8 := Lib.hid hh8
      have HL := Lib.hid hhl
      have K0 := Lib.hid k0
      have HB0 := Lib.hid hb0
      have HLT := Lib.hid hlt
      have hlt1 : 64 * (j : Int) < (P.size : Int) := by have := HN.out; omega
      have hlt2 : 64 * j + 64 ≤ P.size := by have := HN.out; omega
      clear hh8 hhl k0 hb0 hlt
      go_wp2_with fail
      go_loopw [6, 7] (fun v c wr => ∃ k : Nat, k ≤ 64 ∧ c = .int .i64 k ∧ Row32 (w.heap.size + 1) wr v (shaSched (P.extract (64 * j) (64 * j + 64)) k) ∧ Blk wr w.heap.size (u32s h) 54 ∧ Below w.heap.size w wr) (fun _ c _ => 64 - (intOf c).toNat)
      case atStart => exact ⟨0, by omega, rfl, World.ownsRow_nil _ _ _ _, K0.out, HB0.out⟩
      case round =>
        obtain ⟨k, hk, rfl, hrow, k0, hb0⟩ := hrel
        have hB := hb0.size
        have hl0 := shaSched_length (P.extract (64 * j) (64 * j + 64)) k
        have hll := shaSched_lt (P.extract (64 * j) (64 * j + 64)) k
        by_cases hk64 : k < 64
        · have hk1 : (k : Int) < 64 := by omega
          by_cases hk16 : k < 16
          · have hk2 : (k : Int) < 16 := by omega
            have HS := Lib.hid (shaSched_low (P.extract (64 * j) (64 * j + 64)) k hk16)
            rw [ext_ext _ _ _ _ _ (by omega)] at HS
            generalize shaSched (P.extract (64 * j) (64 * j + 64)) k = l at *
            have hsz : (P.extract (64 * j + 4 * k) (64 * j + 4 * k + 4)).size ≤ 7 := by rw [ext_size]; omega
            have HOW := Lib.hid hrow
            have HLL := Lib.hid hll
            have HL0 := Lib.hid hl0
            have K1 := Lib.hid k0
            have HB1 := Lib.hid hb0
            clear hrow hll hl0 k0 hb0
            go_wp2_with (first | (go_at_call 97; refine (refOf _ _ hsz).mono ?_; rintro e w2 ⟨rfl, rfl⟩) | (at_builtin; refine wpList_append32 rfl _ _ rfl (w.heap.size + 1) u6 l rfl (World.ownsRow.alloc HOW.out _) _ 1 1 [ofB (P.extract (64 * j + 4 * k) (64 * j + 4 * k + 4))] rfl rfl (news32 (x := ((ofB (P.extract (64 * j + 4 * k) (64 * j + 4 * k + 4)) : Nat) : Int) % 4294967296) ?cx ?cc) (by omega) (k + 1) (by have := HL0.out; omega) (by omega) (by simp; have := K1.out.lt; omega) ?_; rotate_left 2; intro g cap w3 h1 h2 h3 h4))
            case cx => exact Int.emod_eq_of_lt (by omega) (by have := ofB_lt4 (P.extract (64 * j + 4 * k) (64 * j + 4 * k + 4)) (by rw [ext_size]; omega); omega)
            case cc => simp
            have hne : some w.heap.size ≠ u6.ownBlock := fun e => by have := (World.ownsRow.lt HOW.out _ e.symm).1; omega
            go_roundw
            case rel =>
              refine ⟨k + 1, by omega, by go_num, ?_, (K1.out.alloc _).grown h2 hne, (HB1.out.alloc hB _).trans (below_less (below_row (World.ownsRow.alloc HOW.out _) h2 (by simp; have := K1.out.lt; omega)) (by omega))⟩
              have e := HS.out
              rw [show 64 * j + (4 * k + 4) = 64 * j + 4 * k + 4 from by omega] at e
              rw [e]
              exact h1
            case measure => simp [intOf]; omega
          · have HS := Lib.hid (shaSched_high (P.extract (64 * j) (64 * j + 64)) k (by omega))
            generalize shaSched (P.extract (64 * j) (64 * j + 64)) k = l at *
            obtain ⟨g, cap, rfl, hg1, hg2⟩ := hrow.form (by omega)
            rw [hl0] at hrow ⊢
            have q15 := hrow.cell (k - 15) (by omega)
            have q2 := hrow.cell (k - 2) (by omega)
            have q16 := hrow.cell (k - 16) (by omega)
            have q7 := hrow.cell (k - 7) (by omega)
            have x15 := hll.getD (k - 15)
            have x2 := hll.getD (k - 2)
            have n15 : (0 : Int) ≤ (k : Int) - 15 ∧ (k : Int) - 15 < k := by omega
            have n2 : (0 : Int) ≤ (k : Int) - 2 ∧ (k : Int) - 2 < k := by omega
            have n16 : (0 : Int) ≤ (k : Int) - 16 ∧ (k : Int) - 16 < k := by omega
            have n7 : (0 : Int) ≤ (k : Int) - 7 ∧ (k : Int) - 7 < k := by omega
            have HOW := Lib.hid hrow
            have HLL := Lib.hid hll
            have HL0 := Lib.hid hl0
            have K1 := Lib.hid k0
            have HB1 := Lib.hid hb0
            generalize hx15 : l.getD (k - 15) 0 = X at *
            generalize hx2 : l.getD (k - 2) 0 = Y at *
            generalize hx16 : l.getD (k - 16) 0 = Z at *
            generalize hx7 : l.getD (k - 7) 0 = U at *
            have HX := Lib.hid (And.intro hx15 (And.intro hx2 (And.intro hx16 hx7)))
            clear hrow hll hl0 k0 hb0 hx15 hx2 hx16 hx7
            go_wp2_with fail
            go_quiet (fail)
            go_wp2_with fail
            have PK := Lib.hid (And.intro HLL (And.intro HL0 (And.intro K1 (And.intro HB1 (And.intro HX (And.intro HS HOW))))))
            have HHp := K0
            have w16 : IntKind.i64.wrap ((k : Int) - 16) = (k : Int) - 16 := IntWalk.i64_in _ (by omega)
            have w7 : IntKind.i64.wrap ((k : Int) - 7) = (k : Int) - 7 := IntWalk.i64_in _ (by omega)
            have t16 : ((k : Int) - 16).toNat = k - 16 := by omega
            have t7 : ((k : Int) - 7).toNat = k - 7 := by omega
            have h7 : (7 : Int) ≤ k := by omega
            have hHB := PK.out.2.2.2.1.out.size
            clear HLL HL0 K1 HB1 HX HS HOW q15 q2 HOF HN hp2 HNX H8 HL K0 HB0 HLT
            go_region_held3 (fun w' => w'.cell? ⟨g, k - 16, none⟩ = some (.int .u32 Z) ∧ w'.cell? ⟨g, k - 7, none⟩ = some (.int .u32 U)) (first | (with_reducible assumption) | exact ⟨(h3 _ (by have := PK.out.2.1.out; omega)).trans ((cell_alloc (by exact hg2)).trans q16), (h3 _ (by have := PK.out.2.1.out; omega)).trans ((cell_alloc (by exact hg2)).trans q7)⟩ | exact ⟨q16, q7⟩ | exact ⟨(cell_alloc (by exact hg2)).trans q16, (cell_alloc (by exact hg2)).trans q7⟩) (first | (go_at_call 161; refine (refRor _ _ (by first | (with_reducible exact x15) | (with_reducible exact x2)) (by omega) (by omega) _).mono ?_; rintro e w3 ⟨rfl, n3, rfl⟩) | (refine step_append32 rfl _ _ rfl (w.heap.size + 1) g k cap _ rfl (World.ownsRow.alloc PK.out.2.2.2.2.2.2.out _) _ 1 _ rfl (cell_new _ _ _) (wrap_nonneg _) (by have := PK.out.2.1.out; omega) (by simp; omega) ?_; intro g3 cap3 w5 h1 h2 h4 h3))
            rename_i hHeld
            clear hHeld
            have hX := PK.out.2.2.2.2.1.out
            have h1' := row_next h1 (next_wrap l k X Y Z U hX.1 hX.2.1 hX.2.2.1 hX.2.2.2 x15 x2)
            have HR := Lib.hid h1'
            have HG := Lib.hid h2
            clear h1 h1' h2 h3 hX
            go_wp2_with fail
            go_roundw
            case rel =>
              refine ⟨k + 1, by omega, by go_num, ?_, Blk.grown ((PK.out.2.2.1.out.drewN _).alloc _) HG.out (by simp; omega), ((below_drewN PK.out.2.2.2.1.out _).alloc hHB _).trans (below_grown HG.out (by omega) (by simp; omega))⟩
              rw [PK.out.2.2.2.2.2.1.out]
              exact HR.out
            case measure => simp [intOf]; omega
        · obtain rfl : k = 64 := by omega
          rw [shaSched_all] at hrow hl0
          generalize P.extract (64 * j) (64 * j + 64) = S at *
          obtain ⟨g6, cap6, rfl, hg1, hg2⟩ := hrow.form (by omega)
          have hc6 : CellsAt wr g6 (shaW S) := ⟨hg2, fun i hi => hrow.cell i hi⟩
          rw [hl0]
          have HW := Lib.hid hl0
          have C6 := Lib.hid hc6
          have K1 := Lib.hid k0
          have HB1 := Lib.hid hb0
          have hwl := k0.lt
          clear hrow hl0 hc6 k0 hb0 hll
          go_wp2_with (first | (refine wpList_buildSlice rfl 250 0 _ rfl (.slice (some ⟨wr.heap.size, 0, none⟩) 0 0) (wr.alloc (.cells #[] 54)) (by kernel_rfl) ?_) | (at_builtin; refine wpList_append32 rfl _ _ rfl (w.heap.size + 1) (.slice (some ⟨wr.heap.size, 0, none⟩) 0 0) [] rfl (World.ownsRow_made _ #[] 0 (by omega) (by decide) rfl) ⟨w.heap.size, 0, none⟩ 8 8 h rfl H8.out.symm (fun j u hu => World.news_of_block (show _ from (K1.out.alloc _)) j u (by simpa [u32s] using hu)) (by omega) 8 rfl (by omega) (by simp; omega) ?_; intro g cap w3 h1 h2 h3 h4))
          have h1' : Row32 (w.heap.size + 1) w3 (.slice (some ⟨g, 0, none⟩) 8 cap) h := h1
          have hgB : w.heap.size < g := (World.ownsRow.lt h1' g rfl).1
          have h8 := H8.out
          have cB : CellsAt w3 g h := ⟨h4, fun i hi => Row32.cell h1' i hi⟩
          have hb3 : Below wr.heap.size wr w3 := ((Below.refl _ _).alloc (Nat.le_refl _) _).trans (below_grown h2 (Nat.le_refl _) (by simp))
          have hB3 : Below w.heap.size w w3 := HB1.out.trans (hb3.mono hB)
          have k3 := K1.out.below hb3 hwl
          have c63 := C6.out.later hb3 hg2
          clear h1 h1' h2 h3 h4 hb3
          go_wp2_with fail
          go_loopw [10, 11] (fun v c wr => ∃ (k g cap : Nat), k ≤ 64 ∧ c = .int .i64 k ∧ v = .slice (some ⟨g, 0, none⟩) 8 cap ∧ CellsAt wr g (shaRounds h (shaW S) k) ∧ CellsAt wr g6 (shaW S) ∧ Blk wr w.heap.size (u32s h) 54 ∧ Below w.heap.size w wr ∧ w.heap.size < g) (fun _ c _ => 64 - (intOf c).toNat)
          case atStart => exact ⟨0, g, cap, by omega, rfl, rfl, cB, c63, k3, hB3, hgB⟩
          case round =>
            clear cB c63 k3 hB3 h8
            clear hgB
            obtain ⟨k, g, cap, hk, rfl, rfl, cg, c6, k0, hb0, hgw⟩ := hrel
            by_cases hk64 : k < 64
            · have hk1 : (k : Int) < 64 := by omega
              have hv8 := shaRounds_length h (shaW S) H8.out k
              have hvl := (Lt32.rounds HL.out (shaW S) k).getD
              have HR : Hid (shaRounds h (shaW S) (k + 1) = shaRound (shaRounds h (shaW S) k) (shaK.getD k 0) ((shaW S).getD k 0)) := rfl
              generalize shaRounds h (shaW S) k = v at *
              have HV := Lib.hid hvl
              have qw := c6.2 k (by rw [HW.out]; omega)
              have q0 := cg.2 0 (by omega)
              have q1 := cg.2 1 (by omega)
              have q2 := cg.2 2 (by omega)
              have q3 := cg.2 3 (by omega)
              have q4 := cg.2 4 (by omega)
              have q5 := cg.2 5 (by omega)
              have q6 := cg.2 6 (by omega)
              have q7 := cg.2 7 (by omega)
              have hgl := cg.1
              have hg6 := c6.1
              have hwl2 := k0.lt
              generalize ha : v.getD 0 0 = va at *
              generalize hb' : v.getD 1 0 = vb at *
              generalize hc : v.getD 2 0 = vc at *
              generalize hd : v.getD 3 0 = vd at *
              generalize he : v.getD 4 0 = ve at *
              generalize hf : v.getD 5 0 = vf at *
              generalize hg : v.getD 6 0 = vg at *
              generalize hh : v.getD 7 0 = vh at *
              generalize hwk : (shaW S).getD k 0 = wk at *
              have HA := Lib.hid (And.intro ha (And.intro hb' (And.intro hc (And.intro hd (And.intro he (And.intro hf (And.intro hg (And.intro hh hwk))))))))
              have xe : ve < 4294967296 := he ▸ HV.out 4
              have xa : va < 4294967296 := ha ▸ HV.out 0
              have PX := Lib.hid (show va < 4294967296 ∧ vb < 4294967296 ∧ vc < 4294967296 ∧ ve < 4294967296 ∧ vf < 4294967296 ∧ vg < 4294967296 from ⟨xa, hb' ▸ HV.out 1, hc ▸ HV.out 2, xe, hf ▸ HV.out 5, hg ▸ HV.out 6⟩)
              have hwk' : 0 ≤ wr.heap.size := Nat.zero_le _
              have HHB := hb0.size
              have PK := Lib.hid (And.intro HA (And.intro PX (And.intro HR (And.intro (Lib.hid cg) (And.intro (Lib.hid c6) (And.intro (Lib.hid k0) (Lib.hid hb0)))))))
              have HV8 := Lib.hid hv8
              clear ha hb' hc hd he hf hg hh hwk HA PX HR cg c6 k0 hb0 hv8 hvl HV
              go_wp2_with fail
              go_quiet (fail)
              go_wp2_with fail
              obtain ⟨w1, hw1⟩ : ∃ w1, w1 = wr.drewN nq := ⟨_, rfl⟩
              rw [← hw1]
              have HW1 := Lib.hid hw1
              have k7 := cell_regrown (w := w1) (by rw [hw1]; exact q7)
              have k5 := cell_regrown (w := w1) (by rw [hw1]; exact q5)
              have k6 := cell_regrown (w := w1) (by rw [hw1]; exact q6)
              have kw := cell_regrown (w := w1) (by rw [hw1]; exact qw)
              have cR : ∀ (m : Int), 1 ≤ m → m ≤ 31 → ∀ d os, Calls Tryz.prog 161 #[.int .u32 ve, .int .i64 m] (Sort.grow (redrawn w1 d) os) fun e w'' => e = .returned (.int .u32 (ror32 ve m.toNat : Nat)) ∧ ∃ p : Regrown, w'' = Sort.grow (redrawn w1 p.d) p.os := fun m h1 h2 d os => Calls.regrown_of (refRorB ve m xe h1 h2 _)
              have cK : ∀ d os, Calls Tryz.prog 162 #[.int .i64 k] (Sort.grow (redrawn w1 d) os) fun e w'' => e = .returned (.int .u32 (shaK.getD k 0 : Nat)) ∧ ∃ p : Regrown, w'' = Sort.grow (redrawn w1 p.d) p.os := fun d os => Calls.regrown_of (refK k hk1 _)
              have CR := Lib.hid cR
              have CK := Lib.hid cK
              clear hw1 cR cK q0 q1 q2 q3 q4 q5 q6 q7 qw
              refine wp_region_quiet_below (by kernel_rfl) (by kernel_rfl) ?_
              repeat (quiet_step (first | exact CR.out _ (by omega) (by omega) _ _ | exact CK.out _ _))
              refine wpQuiet_nil ?_
              intro w2 hw'
              have hb2 : Below w1.heap.size w1 w2 := by obtain ⟨p, rfl⟩ := hw'; exact below_regrown _ _ _
              clear hw' k7 k5 k6 kw CR CK
              rw [if_neg (show ¬ IntKind.u32.signed = true by decide), one_eq ve vf vg vh _ _ xe PK.out.2.1.out.2.2.2.2.1 PK.out.2.1.out.2.2.2.2.2]
              have c1 : CellsAt w1 g v := by rw [HW1.out]; exact ⟨PK.out.2.2.2.1.out.1, PK.out.2.2.2.1.out.2⟩
              have c2 := CellsAt.later c1 hb2 c1.1
              have hv8 : v.length = 8 := HV8.out
              have q1 := c2.2 1 (by omega)
              have q2 := c2.2 2 (by omega)
              have q3 := c2.2 3 (by omega)
              have q5 := c2.2 5 (by omega)
              have q6 := c2.2 6 (by omega)
              rw [PK.out.1.out.2.1] at q1
              rw [PK.out.1.out.2.2.1] at q2
              rw [PK.out.1.out.2.2.2.1] at q3
              rw [PK.out.1.out.2.2.2.2.2.1] at q5
              rw [PK.out.1.out.2.2.2.2.2.2.1] at q6
              have HB2 := Lib.hid hb2
              generalize hone : sha1 ve vf vg vh (shaK[k]?.getD 0) wk = one at *
              have HONE := Lib.hid hone
              clear hone hb2 c1 c2 hv8
              go_wp2_with fail
              go_quiet ((go_at_call 161; exact Calls.quiet_of (refRor va _ xa (by omega) (by omega) _)))
              rw [two_eq va vb vc xa PK.out.2.1.out.2.1 PK.out.2.1.out.2.2.1]
              generalize htwo : sha2 va vb vc = two at *
              have HTWO := Lib.hid htwo
              clear htwo
              go_wp2_with fail
              obtain ⟨w4, hw4⟩ : ∃ w4, w4 = w2.drewN nq := ⟨_, rfl⟩
              rw [← hw4]
              have q1' : w4.cell? ⟨g, 1, none⟩ = some (.int .u32 vb) := by rw [hw4]; exact q1
              have q2' : w4.cell? ⟨g, 2, none⟩ = some (.int .u32 vc) := by rw [hw4]; exact q2
              have q3' : w4.cell? ⟨g, 3, none⟩ = some (.int .u32 vd) := by rw [hw4]; exact q3
              have q5' : w4.cell? ⟨g, 5, none⟩ = some (.int .u32 vf) := by rw [hw4]; exact q5
              have q6' : w4.cell? ⟨g, 6, none⟩ = some (.int .u32 vg) := by rw [hw4]; exact q6
              have hb4 : Below w1.heap.size w1 w4 := by rw [hw4]; exact below_drewN HB2.out _
              have HB4 := Lib.hid hb4
              clear q1 q2 q3 q5 q6 hb4 hw4 HB2
              refine wp_region_tail 22 (by kernel_rfl) (by kernel_rfl) ?_
              simp only [List.take_succ_cons, List.take_zero, List.drop_succ_cons, List.drop_zero]
              repeat still_step
              refine wpStill_nil ?_
              go_wp2_with fail
              rw [add2_cast, add2_cast]
              have Q : u32s (shaRound v (shaK.getD k 0) wk) = u32s [add2 one two, va, vb, vc, add2 vd one, ve, vf, vg] := by
                obtain ⟨h0, h1, h2, h3, h4, h5, h6, h7, h8⟩ := PK.out.1.out
                have h9 := HONE.out
                have h10 := HTWO.out
                simp only [shaRound, h0, h1, h2, h3, h4, h5, h6, h7]
                rw [show shaK.getD k 0 = shaK[k]?.getD 0 from rfl, h9, h10]
              have hbA : Below wr.heap.size wr w4 := by have e := HW1.out; subst e; exact (below_drewN (Below.refl _ _) _).trans HB4.out
              go_roundw
              case rel =>
                have hsz := hbA.size
                refine ⟨k + 1, w4.heap.size, 8, by omega, by go_num, rfl, ?_, ?_, ?_, ?_, ?_⟩
                · rw [PK.out.2.2.1.out]
                  refine CellsAt.of_blk (T := 54) ?_
                  rw [Q]
                  exact Blk.new w4.drew _ _
                · exact PK.out.2.2.2.2.1.out.later ((hbA.drew).alloc (by simp; omega) _) hg6
                · exact (Blk.below PK.out.2.2.2.2.2.1.out hbA hwl2).drew.alloc _
                · exact ((PK.out.2.2.2.2.2.2.out.trans (hbA.mono HHB)).drew).alloc (by simp; omega) _
                · omega
              case measure => simp [intOf]; omega
            · obtain rfl : k = 64 := by omega
              have hv8 := shaRounds_length h (shaW S) H8.out 64
              have hcm : shaBlock h S = List.zipWith add2 h (shaRounds h (shaW S) 64) := shaBlock_comm h S
              generalize shaRounds h (shaW S) 64 = v at *
              have V8 := Lib.hid hv8
              have HCM := Lib.hid hcm
              clear hv8 hcm c6 C6 K1 HB1 hg1 hg2 hwl
              rw [show ((64 : Nat) : Int) = 64 from rfl]
              go_wp2_with fail
              go_loopw [16] (fun c wr => ∃ k : Nat, k ≤ 8 ∧ c = .int .i64 k ∧ Blk wr w.heap.size (u32s (shaSum h v k)) 54 ∧ CellsAt wr g v ∧ Below w.heap.size w wr) (fun c _ => 8 - (intOf c).toNat)
              case atStart => exact ⟨0, by omega, rfl, k0, cg, hb0⟩
              case round =>
                clear k0 cg hb0
                obtain ⟨k, hk, rfl, k0, cg, hb0⟩ := hrel
                have hl8 := shaSum_length h v k H8.out V8.out hk
                by_cases hlt : k < 8
                · have hk8 : (k : Int) < 8 := by omega
                  have hk0 : (0 : Int) ≤ k := by omega
                  have qh := k0.cell k
                  have zh := k0.frozen k
                  have qv := cg.2 k (by rw [V8.out]; omega)
                  rw [u32s_get _ _ (by omega), shaSum_getD h v k H8.out V8.out hlt] at qh
                  have HS := Lib.hid (shaSum_set h v k H8.out V8.out hlt)
                  have K0' := Lib.hid k0
                  have CG := Lib.hid cg
                  have HB' := Lib.hid hb0
                  have hsz := hb0.size
                  have hwl := k0.lt
                  clear k0 cg hb0 hl8
                  generalize hx : h.getD k 0 = x at *
                  generalize hy : v.getD k 0 = y at *
                  clear hx hy
                  go_wp2_with fail
                  refine wp_region_tail 12 (by kernel_rfl) (by kernel_rfl) ?_
                  simp only [List.take_succ_cons, List.take_zero, List.drop_succ_cons, List.drop_zero]
                  repeat still_step
                  refine wpStill_nil ?_
                  go_wp2_with fail
                  go_roundw
                  case rel =>
                    refine ⟨k + 1, by omega, by go_num, ?_, ?_, ?_⟩
                    · rw [add2_cast]
                      have h1 := K0'.out.setCell k (.int .u32 (add2 x y : Nat))
                      rw [u32s_set, HS.out] at h1
                      exact Blk.drew h1
                    · exact CG.out.setOther (by simp; omega) _
                    · exact (HB'.out.setCell (by simp) _).drew
                  case measure => simp [intOf]; omega
                · obtain rfl : k = 8 := by omega
                  have hfin := shaSum_all h v H8.out V8.out
                  rw [hfin, ← HCM.out, ← HNX.out] at k0
                  have K0' := Lib.hid k0
                  have HB' := Lib.hid hb0
                  clear k0 hb0 hfin hl8
                  go_wp2_with fail
                  go_roundw
                  case rel => exact ⟨j + 1, HLT.out, congrArg (Value.int .i64) (by push_cast; omega), K0'.out, HB'.out⟩
                  case measure => have := HLT.out; simp [intOf]; omega
    · obtain rfl : j = n := by omega
      have hlt1 : ¬ 64 * (j : Int) < (P.size : Int) := by have := HN.out; omega
      have hh8 := shaBlocks_length shaH0 P rfl j
      have hhl := Lt32.blocks Lt32.H0 P j
      generalize shaBlocks shaH0 P j = h at *
      have H8 := Lib.hid hh8
      have HL := Lib.hid hhl
      have KK := Lib.hid k0
      have HBB := Lib.hid hb0
      have hwl := k0.lt
      clear hh8 hhl k0 hb0 hlt hj
      go_wp2_with fail
      go_loopw [17, 18] (fun a c wr => ∃ k : Nat, k ≤ 8 ∧ a = .string (shaTextTo h k) ∧ c = .int .i64 k ∧ Blk wr w.heap.size (u32s h) 54 ∧ Below w.heap.size w wr) (fun _ c _ => 8 - (intOf c).toNat)
      case atStart => exact ⟨0, by omega, rfl, rfl, KK.out, HBB.out⟩
      case round =>
        obtain ⟨k, hk, rfl, rfl, k0, hb⟩ := hrel
        by_cases hlt : k < 8
        · have hk8 : (k : Int) < 8 := by omega
          have hk0 : (0 : Int) ≤ k := by omega
          have hsz := shaTextTo_size h k (by rw [H8.out]; omega)
          have HS := Lib.hid (shaTextTo_succ h k (by rw [H8.out]; omega))
          have hsz' : (shaTextTo h k).size ≤ 1099511627776 := by omega
          have hd := HL.out.getD k
          have qh := k0.cell k
          rw [u32s_get _ _ (by rw [H8.out]; omega)] at qh
          have K0' := Lib.hid k0
          have HB' := Lib.hid hb
          have hwl2 := k0.lt
          clear hsz k0 hb
          generalize h.getD k 0 = x at *
          generalize shaTextTo h k = t at *
          go_wp2_with fail
          refine (refPut t x 4 _ hsz' (by omega) (by omega)).mono ?_
          rintro e w2 ⟨rfl, hb2⟩
          go_wp2_with fail
          go_roundw
          case rel => exact ⟨k + 1, by omega, by rw [HS.out], by go_num, K0'.out.below hb2 hwl2, HB'.out.trans (hb2.mono HB'.out.size)⟩
          case measure => simp [intOf]; omega
        · obtain rfl : k = 8 := by omega
          go_wp2_with fail
          go_ret
          refine ⟨ret_str ?_, hb⟩
          rw [HOF.out]
          unfold shaTextTo shaText
          rw [List.take_of_length_le (by rw [H8.out]; omega)]
end Go.Proofs.YtjboillkhhefaaaGreatDoor
