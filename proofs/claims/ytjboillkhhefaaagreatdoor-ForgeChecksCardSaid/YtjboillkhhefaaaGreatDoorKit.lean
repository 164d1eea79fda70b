/- Own words of these proofs: rows of bytes (with the mark of a conversion), and the laws for '[]byte(s)', 'append(b, c)', 'string(b)'. -/
import Derived.Test.YtjboillkhhefaaaGreatDoorProg
import Derived.WalkKit
import Derived.WalkSpells
import Derived.WalkLawsBesides
import Derived.Lib.ConvBytes
import Derived.Lib.Hide
import Derived.Laws.BytesArg
import Derived.Laws.BitsAllLaws
import Derived.Deep.QuietTactic
import Derived.BigQuiet
import Derived.Outline
import Derived.StillTailTactics
import Derived.Deep.RegionHeld3
set_option linter.unusedVariables false
namespace Go.Proofs.YtjboillkhhefaaaGreatDoor
open Go.RowKit

/-- The values of bytes. -/
def bvals (l : List UInt8) : List Value := l.map fun b => .int .u8 b.toNat
theorem bvals_length (l : List UInt8) : (bvals l).length = l.length := by simp [bvals]
theorem bvals_append (l m : List UInt8) : bvals (l ++ m) = bvals l ++ bvals m := by simp [bvals]

/-- A slice value that is a row of the call's own (from block B on), of which the first cells are these bytes. -/
def ByteRow (e : TypeId) (B : Nat) (w : World) (v : Value) (l : List UInt8) : Prop :=
  ∃ g cap cur fr, v = .slice (some ⟨g, 0, none⟩) l.length cap ∧ B ≤ g ∧ w.heap[g]? = some (.cells cur e fr) ∧ (fr = (0, 0) ∨ cur.size ≤ fr.1) ∧
    l.length ≤ cap ∧ cap ≤ maxLen ∧ cur.size = cap ∧ cur.toList.take l.length = bvals l

theorem ByteRow.cell {e B w v l} (h : ByteRow e B w v l) : ∃ g cap, v = .slice (some ⟨g, 0, none⟩) l.length cap ∧ B ≤ g ∧ g < w.heap.size ∧ l.length ≤ cap ∧ cap ≤ maxLen ∧
    (∀ i, i < l.length → w.cell? ⟨g, i, none⟩ = some (.int .u8 (l.getD i 0).toNat)) ∧ (∀ i, i < cap → w.frozen? ⟨g, i, none⟩ = false) := by
  obtain ⟨g, cap, cur, fr, rfl, hB, hg, hfr, hl, hm, hs, ht⟩ := h
  refine ⟨g, cap, rfl, hB, (Array.getElem?_eq_some_iff.1 hg).1, hl, hm, fun i hi => ?_, fun i hi => ?_⟩
  · have h1 : cur.toList[i]? = some (.int .u8 (l.getD i 0).toNat) := by
      have h2 : (cur.toList.take l.length)[i]? = (bvals l)[i]? := by rw [ht]
      rw [List.getElem?_take, if_pos hi] at h2
      rw [h2]; simp [bvals, hi, List.getD]
    simp only [World.cell?, hg]
    simpa using h1
  · simp only [World.frozen?, hg]
    rcases hfr with rfl | hfr
    · simp
    · obtain ⟨lo, hi'⟩ := fr
      simp at hfr ⊢
      omega

theorem ByteRow.below {e B w w' v l} (h : ByteRow e B w v l) {C : Nat} (hb : Below C w w') (hC : ∀ g n c, v = .slice (some ⟨g, 0, none⟩) n c → g < C) : ByteRow e B w' v l := by
  obtain ⟨g, cap, cur, fr, rfl, hB, hg, r⟩ := h
  exact ⟨g, cap, cur, fr, rfl, hB, by rw [hb.block g (hC _ _ _ rfl)]; exact hg, r⟩

theorem ByteRow.alloc {e B w v l} (h : ByteRow e B w v l) (o : Obj) : ByteRow e B (w.alloc o) v l := by
  obtain ⟨g, cap, cur, fr, rfl, hB, hg, r⟩ := h
  exact ⟨g, cap, cur, fr, rfl, hB, by rw [Below.heap_alloc _ _ _ (Array.getElem?_eq_some_iff.1 hg).1]; exact hg, r⟩

/-- '[]byte(s)'. -/
theorem run_toBytes {P : Program} (w : World) (src dst e : TypeId) (s : ByteArray) (B : Nat) (hB : B ≤ w.heap.size) (hs : P.underlying src = some .string) (hd : P.underlying dst = some (.slice e)) (he : P.underlying e = some (.int .u8)) (hm : s.size ≤ maxLen) :
    ∃ v w', (convert src dst (.string s)).run P w = .ok v w' ∧ ByteRow e B w' v s.data.toList ∧ Below w.heap.size w w' := by
  refine ⟨_, _, Lib.run_convert_string_bytes w src dst e s hs hd he, ⟨w.heap.size, grownCap w s.size 0 e, _, _, rfl, hB, Lib.bytesWorld_at_new w e s, .inr (Nat.le_refl _), ?_, ?_, ?_, ?_⟩, ⟨?_, ?_, ?_, ?_, ?_⟩⟩
  · exact grownCap_ge w s.size 0 e
  · exact grownCap_le_maxLen w _ _ _ hm
  · have := grownCap_ge w s.size 0 e
    simp only [Lib.bytesCells, Array.size_append, Array.size_map, Array.size_replicate]
    have e : s.data.size = s.size := rfl
    omega
  · simp [Lib.bytesCells, bvals]
  · simp [Lib.bytesWorld, World.freeze, World.alloc, World.drew, -World.alloc_eq, -World.drew_eq]
  · simp [Lib.bytesWorld, World.freeze, World.alloc, World.drew, -World.alloc_eq, -World.drew_eq]
  · simp [Lib.bytesWorld, World.freeze, World.alloc, World.drew, -World.alloc_eq, -World.drew_eq]
  · rw [Lib.bytesWorld_size]; omega
  · intro k hk; exact Lib.bytesWorld_at_old w e s k hk

theorem wpList_toBytes {P : Program} {ops : Array Oper} {rest : List Oper} {o : Oper} {a : Act} {Q : Exit → Act → World → Prop} {w : World} (hgd : o.guard = none) (src dst : TypeId) (x : Operand) (ho : o.op = .convert src dst x)
    (e : TypeId) (s : ByteArray) (B : Nat) (hx : a.eval x = .string s) (hB : B ≤ w.heap.size) (hs : P.underlying src = some .string) (hd : P.underlying dst = some (.slice e)) (he : P.underlying e = some (.int .u8)) (hm : s.size ≤ maxLen)
    (h : ∀ v w', ByteRow e B w' v s.data.toList → Below w.heap.size w w' → wpList P ops Q rest (a.put o.dst v) w') : wpList P ops Q (o :: rest) a w := by
  obtain ⟨v, w', hr, h1, h2⟩ := run_toBytes (P := P) w src dst e s B hB hs hd he hm
  refine wpList_plain hgd fun K hK => ?_
  unfold Oper.wp execOp
  simp only [ho, hx, Sem.run_bind, hr, Result.andThen_ok, Sem.run_pure]
  exact hK _ _ (h v w' h1 h2)

/-- 'append(b, c)' of one byte. -/
theorem run_append_byte {P : Program} (w : World) (t ty e : TypeId) (i : TypeInfo) (ht : P.underlying t = some (.slice e)) (hi : P.info? e = some i) (hz : i.zero = some (.int .u8 0)) (hsz : i.size = 1) (hby : i.bytes = 1)
    (B : Nat) (v : Value) (l : List UInt8) (h : ByteRow e B w v l) (hB : B ≤ w.heap.size) (ad : Addr) (c : Nat) (b : UInt8) (hc : w.cell? ad = some (.int .u8 b.toNat)) (hl : l.length + 1 ≤ 140737488355328) :
    ∃ v' w', (Builtin.append_ #[t, t] ty #[v, .slice (some ad) 1 c]).run P w = .ok v' w' ∧ ByteRow e B w' v' (l ++ [b]) ∧ Below B w w' := by
  have hcell := h.cell
  obtain ⟨g, cap, cur, fr, rfl, hBg, hg, hfr, hlc, hm, hs, htk⟩ := h
  have hlm : l.length + 1 ≤ maxLen := by unfold maxLen; omega
  have hnews : ∀ j u, [Value.int .u8 b.toNat][j]? = some u → w.cell? (ad.add j) = some u := by
    intro j u hu
    cases j with
    | zero => simp at hu; subst hu; simpa [Addr.add] using hc
    | succ j => simp at hu
  by_cases hroom : l.length + 1 ≤ cap
  · obtain ⟨g', cap', hv, _, _, _, _, _, hfz⟩ := hcell
    simp only [Value.slice.injEq, Option.some.injEq, Addr.mk.injEq, and_true] at hv
    obtain ⟨rfl, -, rfl⟩ := hv
    have hlt : l.length < cur.size := by omega
    have hcl : w.cell? ⟨g, l.length, none⟩ = some cur[l.length] := by simp [World.cell?, hg, hlt]
    have hf := run_firstCells_some (P := P) w 1 1 ad 1 c [Value.int .u8 b.toNat] rfl hnews
    have hst : (store (⟨g, l.length, none⟩ : Addr) (.int .u8 b.toNat)).run P w = .ok () (w.setCell ⟨g, l.length, none⟩ (.int .u8 b.toNat)) := by
      rw [run_store P w _ _ _ rfl, hcl]
      simp [hfz l.length (by omega)]
    refine ⟨.slice (some ⟨g, 0, none⟩) (l.length + 1) cap, w.setCell ⟨g, l.length, none⟩ (.int .u8 b.toNat), ?_, ⟨g, cap, cur.setIfInBounds l.length (.int .u8 b.toNat), fr, by simp, hBg, ?_, ?_, by simpa using hroom, hm, by simpa using hs, ?_⟩, (Below.refl _ _).setCell (by simpa using hBg) _⟩
    · have hadd : (⟨g, 0, none⟩ : Addr).add l.length = ⟨g, l.length, none⟩ := by unfold Addr.add; split <;> simp_all
      have hadd0 : (⟨g, l.length, none⟩ : Addr).add 0 = ⟨g, l.length, none⟩ := by simp [Addr.add]
      simp [Builtin.append_, run_underlying ht, sizeOf, typeInfo, hi, hsz, Builtin.lenOf, hroom, hf, hadd, storeCells, hadd0, hst]
    · simp only [World.setCell, Array.getElem?_modify, hg]
      simp
    · simpa using hfr
    · rw [List.length_append, Array.toList_setIfInBounds]
      rw [bvals_append, ← htk]
      simp only [List.length_singleton]
      rw [List.take_add_one]
      have hll : l.length < cur.toList.length := by simpa using hlt
      rw [List.take_set_of_le (Nat.le_refl _), List.getElem?_set_self hll]
      simp [bvals]
  · have holds : ∀ j u, (bvals l)[j]? = some u → w.cell? ((⟨g, 0, none⟩ : Addr).add j) = some u := by
      intro j u hu
      have hadd : (⟨g, 0, none⟩ : Addr).add j = ⟨g, j, none⟩ := by unfold Addr.add; split <;> simp_all
      rw [hadd, cell_of_row w g j cur e fr hg]
      rw [← htk, List.getElem?_take] at hu
      split at hu
      · simpa using hu
      · cases hu
    have hr := run_append_grow (P := P) w t ty e i (.int .u8 0) ht hi hz ⟨g, 0, none⟩ l.length cap (bvals l) (by rw [hsz, bvals_length, Nat.mul_one]) holds ad 1 c [.int .u8 b.toNat] (by rw [hsz]; rfl) hnews (by omega) (by unfold maxLen at hlm; omega) (growslice_fits (by omega) (by rw [hby]; omega))
    refine ⟨_, _, hr, ⟨w.heap.size, grownCap w (l.length + 1) cap e, _, (0, 0), by rw [List.length_append]; rfl, hB, heap_alloc_new w.drew _, .inl rfl, ?_, ?_, ?_, ?_⟩, ?_⟩
    · have := grownCap_ge w (l.length + 1) cap e; simpa using this
    · exact grownCap_le_maxLen w _ _ _ hlm
    · have := grownCap_ge w (l.length + 1) cap e
      simp [size_zeroCells, bvals, Value.cells]
      omega
    · simp only [Array.toList_append, List.append_assoc]
      rw [bvals_append, List.length_append]
      rw [show l.length + [b].length = (bvals l ++ bvals [b]).length from by simp [bvals]]
      rw [← List.append_assoc]
      exact List.take_left' (by simp [bvals])
    · exact ((Below.refl _ _).drew).alloc hB _

theorem wpList_append_byte {P : Program} {ops : Array Oper} {rest : List Oper} {o : Oper} {a : Act} {Q : Exit → Act → World → Prop} {w : World} (hgd : o.guard = none) (s x : Operand) (t : TypeId)
    (ho : o.op = .call { callee := .builtin .append, args := #[s, x], argTypes := #[t, t] })
    (e : TypeId) (i : TypeInfo) (ht : P.underlying t = some (.slice e)) (hi : P.info? e = some i) (hz : i.zero = some (.int .u8 0)) (hsz : i.size = 1) (hby : i.bytes = 1)
    (B : Nat) (v : Value) (l : List UInt8) (hs : a.eval s = v) (h : ByteRow e B w v l) (hB : B ≤ w.heap.size) (ad : Addr) (c : Nat) (b : UInt8) (hx : a.eval x = .slice (some ad) 1 c) (hc : w.cell? ad = some (.int .u8 b.toNat)) (hl : l.length + 1 ≤ 140737488355328)
    (hk : ∀ v' w', ByteRow e B w' v' (l ++ [b]) → Below B w w' → wpList P ops Q rest (a.put o.dst v') w') : wpList P ops Q (o :: rest) a w := by
  obtain ⟨v', w', hr, h1, h2⟩ := run_append_byte (P := P) w t o.type e i ht hi hz hsz hby B v l h hB ad c b hc hl
  refine wpList_plain hgd fun K hK => ?_
  unfold Oper.wp execOp
  simp only [ho, resolve, invoke, builtin, Sem.run_bind, Sem.run_pure, Result.andThen_ok, List.map_toArray, List.map_cons, List.map_nil, hs, hx, hr]
  exact hK _ _ (hk v' w' h1 h2)

/-- 'string(b)'. -/
theorem run_toString {P : Program} (w : World) (src dst e : TypeId) (B : Nat) (v : Value) (l : List UInt8) (h : ByteRow e B w v l) (hs : P.underlying src = some (.slice e)) (he : P.underlying e = some (.int .u8)) (hd : P.underlying dst = some .string) :
    (convert src dst v).run P w = .ok (.string ⟨l.toArray⟩) w := by
  obtain ⟨g, cap, rfl, _, _, _, _, hc, _⟩ := h.cell
  have hr := run_convert_bytes_arg (P := P) w src e hs he g 0 l.length cap (l.map fun b => (b.toNat : Int)) (by simp) (fun i hi => by
    rw [Nat.zero_add, hc i hi]; simp [hi, List.getD]) dst hd
  rw [hr]
  congr 2
  simp only [strOfNums]
  congr 1
  apply Array.ext'
  simp [Function.comp_def]

theorem wpList_toString {P : Program} {ops : Array Oper} {rest : List Oper} {o : Oper} {a : Act} {Q : Exit → Act → World → Prop} {w : World} (hgd : o.guard = none) (src dst : TypeId) (x : Operand) (ho : o.op = .convert src dst x)
    (e : TypeId) (B : Nat) (v : Value) (l : List UInt8) (hx : a.eval x = v) (h : ByteRow e B w v l) (hs : P.underlying src = some (.slice e)) (he : P.underlying e = some (.int .u8)) (hd : P.underlying dst = some .string)
    (hk : wpList P ops Q rest (a.put o.dst (.string ⟨l.toArray⟩)) w) : wpList P ops Q (o :: rest) a w := by
  have hr := run_toString (P := P) w src dst e B v l h hs he hd
  refine wpList_plain hgd fun K hK => ?_
  unfold Oper.wp execOp
  simp only [ho, hx, Sem.run_bind, hr, Result.andThen_ok, Sem.run_pure]
  exact hK _ _ hk

/-- 'string([]byte{c})'. -/
theorem run_toString1 {P : Program} (w : World) (src dst e : TypeId) (ad : Addr) (c : Nat) (n : Int) (hc : w.cell? ad = some (.int .u8 n)) (hs : P.underlying src = some (.slice e)) (he : P.underlying e = some (.int .u8)) (hd : P.underlying dst = some .string) :
    (convert src dst (.slice (some ad) 1 c)).run P w = .ok (.string ⟨#[UInt8.ofNat n.toNat]⟩) w := by
  have hl : (loadCells ad 1).run P w = .ok ([n].map (Value.int .u8)).toArray w := run_loadCells_list (P := P) w ad [Value.int .u8 n] (fun j u hu => by
    cases j with
    | zero => simp at hu; subst hu; simpa [Addr.add] using hc
    | succ j => simp at hu)
  rw [run_convert_bytes_string w src dst e _ 1 c hs he hd, run_bytesToString w _ 1 c [n] hl, foldl_push_bytes]
  rfl

theorem wpList_toString1 {P : Program} {ops : Array Oper} {rest : List Oper} {o : Oper} {a : Act} {Q : Exit → Act → World → Prop} {w : World} (hgd : o.guard = none) (src dst : TypeId) (x : Operand) (ho : o.op = .convert src dst x)
    (e : TypeId) (ad : Addr) (c : Nat) (n : Int) (hx : a.eval x = .slice (some ad) 1 c) (hc : w.cell? ad = some (.int .u8 n)) (hs : P.underlying src = some (.slice e)) (he : P.underlying e = some (.int .u8)) (hd : P.underlying dst = some .string)
    (hk : wpList P ops Q rest (a.put o.dst (.string ⟨#[UInt8.ofNat n.toNat]⟩)) w) : wpList P ops Q (o :: rest) a w := by
  have hr := run_toString1 (P := P) w src dst e ad c n hc hs he hd
  refine wpList_plain hgd fun K hK => ?_
  unfold Oper.wp execOp
  simp only [ho, hx, Sem.run_bind, hr, Result.andThen_ok, Sem.run_pure]
  exact hK _ _ hk

/-- A block known whole, and not marked. -/
def Blk (w : World) (b : Nat) (cs : Array Value) (T : TypeId) : Prop := w.heap[b]? = some (.cells cs T (0, 0))
theorem Blk.cell {w : World} {b : Nat} {cs : Array Value} {T : TypeId} (h : Blk w b cs T) (i : Nat) : w.cell? ⟨b, i, none⟩ = cs[i]? := by
  unfold Blk at h; simp [World.cell?, h]
theorem Blk.frozen {w : World} {b : Nat} {cs : Array Value} {T : TypeId} (h : Blk w b cs T) (i : Nat) : w.frozen? ⟨b, i, none⟩ = false := by
  unfold Blk at h; simp [World.frozen?, h]
theorem Blk.lt {w : World} {b : Nat} {cs : Array Value} {T : TypeId} (h : Blk w b cs T) : b < w.heap.size := (Array.getElem?_eq_some_iff.1 h).1
theorem Blk.new (w : World) (cs : Array Value) (T : TypeId) : Blk (w.alloc (.cells cs T)) w.heap.size cs T := heap_alloc_new w _
theorem Blk.at (w : World) (cs : Array Value) (T : TypeId) (n : Nat) (h : w.heap.size = n) : Blk (w.alloc (.cells cs T)) n cs T := by subst h; exact heap_alloc_new w _
theorem Blk.new2 (w : World) (A : Obj) (cs : Array Value) (T : TypeId) : Blk ((w.alloc A).alloc (.cells cs T)) (w.heap.size + 1) cs T := heap_alloc2_new w _ _
theorem Blk.alloc {w : World} {b : Nat} {cs : Array Value} {T : TypeId} (h : Blk w b cs T) (o : Obj) : Blk (w.alloc o) b cs T := by
  unfold Blk; rw [Below.heap_alloc _ _ _ h.lt]; exact h
theorem Blk.drew {w : World} {b : Nat} {cs : Array Value} {T : TypeId} (h : Blk w b cs T) : Blk w.drew b cs T := h
theorem Blk.drewN {w : World} {b : Nat} {cs : Array Value} {T : TypeId} (h : Blk w b cs T) (n : Nat) : Blk (w.drewN n) b cs T := h
theorem grownBy_drewN {a b : World} {row : Option Nat} (h : a.grownBy b row) (n : Nat) : a.grownBy (b.drewN n) row := ⟨h.os, h.tape, h.output, h.size, h.block⟩
theorem Blk.setCell {w : World} {b : Nat} {cs : Array Value} {T : TypeId} (h : Blk w b cs T) (i : Nat) (v : Value) : Blk (w.setCell ⟨b, i, none⟩ v) b (cs.setIfInBounds i v) T := by
  unfold Blk at *; simp [World.setCell, Array.getElem?_modify, h]
theorem Blk.setOther {w : World} {b : Nat} {cs : Array Value} {T : TypeId} (h : Blk w b cs T) {p : Addr} (hp : b ≠ p.block) (v : Value) : Blk (w.setCell p v) b cs T := by
  unfold Blk; rw [Below.heap_setCell _ _ _ _ hp]; exact h
theorem Blk.grown {w w' : World} {b : Nat} {cs : Array Value} {T : TypeId} (h : Blk w b cs T) {row : Option Nat} (hg : w.grownBy w' row) (hne : some b ≠ row) : Blk w' b cs T := by
  unfold Blk; rw [hg.block b h.lt hne]; exact h
theorem Blk.below {w w' : World} {b : Nat} {cs : Array Value} {T : TypeId} (h : Blk w b cs T) {B : Nat} (hb : Below B w w') (hB : b < B) : Blk w' b cs T := by
  unfold Blk; rw [hb.block b hB]; exact h
theorem grownBy_refl (w : World) (row : Option Nat) : w.grownBy w row := ⟨rfl, rfl, rfl, Nat.le_refl _, fun _ _ _ => rfl⟩
theorem grownBy_set (w : World) (b i : Nat) (v : Value) : w.grownBy (w.setCell ⟨b, i, none⟩ v) (some b) :=
  ⟨rfl, rfl, rfl, by simp [World.setCell], fun k _ hk => Below.heap_setCell _ _ _ _ (fun e => hk (by simp [e]))⟩
theorem grownBy_trans {a b c : World} {row : Option Nat} (h : a.grownBy b row) (k : b.grownBy c row) : a.grownBy c row :=
  ⟨k.os.trans h.os, k.tape.trans h.tape, k.output.trans h.output, Nat.le_trans h.size k.size, fun i hi hn => (k.block i (Nat.lt_of_lt_of_le hi h.size) hn).trans (h.block i hi hn)⟩
theorem grownBy_alloc {a b : World} {row : Option Nat} (h : a.grownBy b row) (o : Obj) : a.grownBy (b.alloc o) row := grownBy_trans h (World.grownBy_alloc b o row)
theorem grownBy_drew {a b : World} {row : Option Nat} (h : a.grownBy b row) : a.grownBy b.drew row := grownBy_trans h ⟨rfl, rfl, rfl, Nat.le_refl _, fun _ _ _ => rfl⟩
theorem grownBy_setNew {a b : World} {row : Option Nat} (h : a.grownBy b row) {p : Addr} (hp : a.heap.size ≤ p.block) (v : Value) : a.grownBy (b.setCell p v) row :=
  ⟨h.os, h.tape, h.output, by simp [World.setCell]; exact h.size, fun k hk hn => by rw [Below.heap_setCell _ _ _ _ (by omega)]; exact h.block k hk hn⟩
theorem grownBy_below {a b : World} (h : Below a.heap.size a b) (row : Option Nat) : a.grownBy b row := ⟨h.os, h.tape, h.output, h.size, fun k hk _ => h.block k hk⟩
theorem below_grown {a b : World} {g B : Nat} (h : a.grownBy b (some g)) (hB : B ≤ g) (hs : B ≤ a.heap.size) : Below B a b :=
  ⟨h.os, h.tape, h.output, h.size, fun k hk => h.block k (by omega) (by simp; omega)⟩
/-- What a world that is as it was below B says of the cells and marks there. -/
theorem bcell {B : Nat} {W w1 : World} (hb : Below B W w1) : (∀ b o, b < B → w1.cell? ⟨b, o, none⟩ = W.cell? ⟨b, o, none⟩) ∧ (∀ b o, b < B → w1.frozen? ⟨b, o, none⟩ = W.frozen? ⟨b, o, none⟩) :=
  ⟨fun b o h => hb.cell (p := ⟨b, o, none⟩) h, fun b o h => hb.frozen (p := ⟨b, o, none⟩) h⟩
theorem run_storeVar_blk {P : Program} (w : World) (b : Nat) (T ty : TypeId) (old cs : Array Value) (h : Blk w b old T) (hsz : old.size = cs.size) (hi : (P.info? ty).map (·.size) = some cs.size) (h1 : ∀ v ∈ cs.toList, v.oneCell' = true) :
    (storeVar ty ⟨b, 0, none⟩ (.agg cs)).run P w = .ok () (w.setRow b cs) := by
  have hst := run_storeCells_at P b 0 T cs.toList 0 old w h (by simp [hsz]) h1
  cases hq : P.info? ty with
  | none => simp [hq] at hi
  | some i =>
    have hs : cs.size = i.size := by simp [hq] at hi; omega
    have hd : List.drop cs.size old.toList = [] := List.drop_eq_nil_of_le (by simp [hsz])
    simp [hd] at hst
    simp [storeVar, sizeOf, typeInfo, hq, Value.cells, hs, hst]
theorem wpList_store_blk {P : Program} {ops : Array Oper} {rest : List Oper} {o : Oper} {a : Act} {Q : Exit → Act → World → Prop} {w : World} (hgd : o.guard = none) (ty : TypeId) (x y : Operand) (ho : o.op = .store ty x y)
    (b : Nat) (cs : Array Value) (hx : a.eval x = .pointer (some ⟨b, 0, none⟩)) (hy : a.eval y = .agg cs) (T : TypeId) (old : Array Value) (h : Blk w b old T) (hsz : old.size = cs.size) (hi : (P.info? ty).map (·.size) = some cs.size) (h1 : ∀ v ∈ cs.toList, v.oneCell' = true)
    (hk : ∀ w', Blk w' b cs T → w.grownBy w' (some b) → wpList P ops Q rest (a.put o.dst undef) w') : wpList P ops Q (o :: rest) a w := by
  have hr := run_storeVar_blk (P := P) w b T ty old cs h hsz hi h1
  refine wpList_plain hgd fun K hK => ?_
  unfold Oper.wp execOp
  simp only [ho, hx, hy, Instr.storeAt, Instr.sureAddr, Sem.run_bind, Sem.run_pure, Result.andThen_ok, hr]
  exact hK _ _ (hk _ (setRow_heap w b old cs T _ h) ⟨rfl, rfl, rfl, by simp, fun k _ hk => setRow_other w b k _ (fun e => hk (by simp [e]))⟩)
theorem wpList_load_blk {P : Program} {ops : Array Oper} {rest : List Oper} {o : Oper} {a : Act} {w : World} {Q : Exit → Act → World → Prop} (hgd : o.guard = none) (ty : TypeId) (x : Operand) (ho : o.op = .load ty x)
    (g : Nat) (hx : a.eval x = .pointer (some ⟨g, 0, none⟩)) (t : TypeId) (cs : Array Value) (d : TypeDesc) (hg : Blk w g cs t)
    (hu : P.underlying ty = some d) (hd : (match d with | .struct _ | .array _ _ => true | _ => false) = true) (hi : (P.info? ty).map (·.size) = some cs.size)
    (h : wpList P ops Q rest (a.put o.dst (.agg cs)) w) : wpList P ops Q (o :: rest) a w :=
  wpList_load_row hgd ty x ho g hx t cs (0, 0) d hg hu hd hi h
/-- Numbers of 32 bits as cells. -/
def u32s (l : List Nat) : Array Value := (l.map fun (n : Nat) => Value.int .u32 n).toArray
theorem u32s_size (l : List Nat) : (u32s l).size = l.length := by simp [u32s]
theorem u32s_get (l : List Nat) (i : Nat) (h : i < l.length) : (u32s l)[i]? = some (.int .u32 (l.getD i 0 : Nat)) := by simp [u32s, h, List.getD]
theorem u32s_one (l : List Nat) : ∀ v ∈ (u32s l).toList, v.oneCell' = true := by intro v hv; simp [u32s] at hv; obtain ⟨x, _, rfl⟩ := hv; rfl
theorem u32s_set (l : List Nat) (i n : Nat) : (u32s l).setIfInBounds i (.int .u32 n) = u32s (l.set i n) := by
  apply Array.ext'; simp [u32s, List.map_set]
theorem run_index_u32s {P : Program} (T e : TypeId) (n : Nat) (l : List Nat) (i : Nat) (hu : P.underlying T = some (.array n e)) (hs : (P.info? e).map (·.size) = some 1) (ha : ∀ w, (isAgg e).run P w = .ok false w) (hl : l.length = n) (hi : i < n) (w : World) :
    (Instr.index T (.agg (u32s l)) (.int .i64 i)).run P w = .ok (.int .u32 (l.getD i 0 : Nat)) w := by
  have hg := u32s_get l i (by omega)
  cases hq : P.info? e with
  | none => simp [hq] at hs
  | some j =>
    have hj : j.size = 1 := by simpa [hq] using hs
    simp [Instr.index, asIntOf, run_underlying hu, hi, sizeOf, typeInfo, hq, hj, part, ha, hg]
theorem wpList_index_u32s {P : Program} {ops : Array Oper} {rest : List Oper} {o : Oper} {a : Act} {Q : Exit → Act → World → Prop} {w : World} (hgd : o.guard = none) (T : TypeId) (x y : Operand) (ho : o.op = .index T x y)
    (e : TypeId) (n : Nat) (l : List Nat) (i : Nat) (hx : a.eval x = .agg (u32s l)) (hy : a.eval y = .int .i64 i) (hu : P.underlying T = some (.array n e)) (hs : (P.info? e).map (·.size) = some 1) (ha : ∀ w, (isAgg e).run P w = .ok false w) (hl : l.length = n) (hi : i < n)
    (hk : wpList P ops Q rest (a.put o.dst (.int .u32 (l.getD i 0 : Nat))) w) : wpList P ops Q (o :: rest) a w := by
  have hr := run_index_u32s (P := P) T e n l i hu hs ha hl hi w
  refine wpList_plain hgd fun K hK => ?_
  unfold Oper.wp execOp
  simp only [ho, hx, hy, Sem.run_bind, hr, Result.andThen_ok, Sem.run_pure]
  exact hK _ _ hk
/-- An operation that gives a value and leaves the world alone: the value named. -/
theorem wpList_value {P : Program} {ops : Array Oper} {rest : List Oper} {o : Oper} {a : Act} {Q : Exit → Act → World → Prop} {w : World} (hgd : o.guard = none) (v : Value) (hr : (execOp a.eval o).run P w = .ok (.value v) w)
    (hk : wpList P ops Q rest (a.put o.dst v) w) : wpList P ops Q (o :: rest) a w := by
  refine wpList_plain hgd fun K hK => ?_
  unfold Oper.wp
  rw [hr]
  exact hK _ _ hk
theorem wpList_build {P : Program} {ops : Array Oper} {rest : List Oper} {o : Oper} {a : Act} {Q : Exit → Act → World → Prop} {w : World} (hgd : o.guard = none) (T : TypeId) (ps : Array (Nat × Operand)) (ho : o.op = .build T ps) (v : Value) (hr : (execOp a.eval o).run P w = .ok (.value v) w)
    (hk : wpList P ops Q rest (a.put o.dst v) w) : wpList P ops Q (o :: rest) a w := wpList_value hgd v hr hk
/-- A region that draws its order, of which the first n operations only read and the rest is forced: in the order of the text. -/
theorem wp_region_tail {P : Program} {id : Nat} {Q : Exit → Act → World → Prop} {a : Act} {w : World} {l : List Oper} (n : Nat) (hm : P.follows .mixedOrders = true) (hB : Region.lexTailB .any l.toArray n = true)
    (h : wpStill P l.toArray w.drew (fun a' => wpList P l.toArray Q (l.drop n) a' w.drew) (l.take n) a) : (Code.region id l.toArray true).wp P Q a w :=
  wp_region_still_tail n hm hB h
theorem ret_int {k : IntKind} {a b : Int} (h : a = b) : Ending.returned (.int k a) = .returned (.int k b) := by rw [h]
theorem ret_str {a b : ByteArray} (h : a = b) : Ending.returned (.string a) = .returned (.string b) := by rw [h]
theorem ret_bool {a b : Bool} (h : a = b) : Ending.returned (.bool a) = .returned (.bool b) := by rw [h]

end Go.Proofs.YtjboillkhhefaaaGreatDoor
