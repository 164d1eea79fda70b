/- The program's package mpopt: the parts of an option. -/
import Derived.Test.YtjboillkhhefaaaGreatDoorRefn
import Derived.Test.YtjboillkhhefaaaGreatDoorRefm
set_option linter.unusedVariables false
namespace Go.Proofs.YtjboillkhhefaaaGreatDoor
open Go.RowKit

/-- What a call may have turned: the blocks of S alone. -/
structure Touch (w w' : World) (S : Nat → Prop) : Prop where
  os : w'.os = w.os
  tape : w'.tape = w.tape
  output : w'.output = w.output
  size : w.heap.size ≤ w'.heap.size
  block : ∀ k, k < w.heap.size → ¬ S k → w'.heap[k]? = w.heap[k]?
theorem Touch.refl (w : World) (S : Nat → Prop) : Touch w w S := ⟨rfl, rfl, rfl, Nat.le_refl _, fun _ _ _ => rfl⟩
theorem Touch.trans {a b c : World} {S : Nat → Prop} (h : Touch a b S) (k : Touch b c S) : Touch a c S :=
  ⟨k.os.trans h.os, k.tape.trans h.tape, k.output.trans h.output, Nat.le_trans h.size k.size, fun i hi hs => (k.block i (Nat.lt_of_lt_of_le hi h.size) hs).trans (h.block i hi hs)⟩
theorem Touch.mono {a b : World} {S T : Nat → Prop} (h : Touch a b S) (k : ∀ i, i < a.heap.size → S i → T i) : Touch a b T :=
  ⟨h.os, h.tape, h.output, h.size, fun i hi hs => h.block i hi (fun q => hs (k i hi q))⟩
theorem Touch.of_grown {a b : World} {row : Option Nat} (h : a.grownBy b row) : Touch a b (fun k => row = some k) :=
  ⟨h.os, h.tape, h.output, h.size, fun k hk hs => h.block k hk (fun e => hs e.symm)⟩
theorem Touch.of_below {a b : World} (h : Below a.heap.size a b) (S : Nat → Prop) : Touch a b S := ⟨h.os, h.tape, h.output, h.size, fun k hk _ => h.block k hk⟩
theorem Touch.below {a b : World} {S : Nat → Prop} {B : Nat} (h : Touch a b S) (hB : B ≤ a.heap.size) (hs : ∀ k, k < B → ¬ S k) : Below B a b :=
  ⟨h.os, h.tape, h.output, h.size, fun k hk => h.block k (by omega) (hs k hk)⟩
theorem Touch.alloc {a b : World} {S : Nat → Prop} (h : Touch a b S) (o : Obj) : Touch a (b.alloc o) S :=
  h.trans (Touch.of_below ((Below.refl _ _).alloc (Nat.le_refl _) o) S)
theorem Touch.drewN {a b : World} {S : Nat → Prop} (h : Touch a b S) (n : Nat) : Touch a (b.drewN n) S := ⟨h.os, h.tape, h.output, h.size, h.block⟩
theorem Touch.drew {a b : World} {S : Nat → Prop} (h : Touch a b S) : Touch a b.drew S := ⟨h.os, h.tape, h.output, h.size, h.block⟩
theorem Touch.setCell {a b : World} {S : Nat → Prop} (h : Touch a b S) (p : Addr) (hp : p.block < a.heap.size → S p.block) (v : Value) : Touch a (b.setCell p v) S :=
  ⟨h.os, h.tape, h.output, by simp [World.setCell]; exact h.size, fun k hk hs => by rw [Below.heap_setCell _ _ _ _ (fun e => hs (by subst e; exact hp hk))]; exact h.block k hk hs⟩
theorem Blk.touch {w w' : World} {b : Nat} {cs : Array Value} {T : TypeId} (h : Blk w b cs T) {S : Nat → Prop} (hg : Touch w w' S) (hne : ¬ S b) : Blk w' b cs T := by
  unfold Blk; rw [hg.block b h.lt hne]; exact h

/-- A part of an option: a number in a field, of so many bytes; or bytes, of so many. -/
inductive PartV where
  | num (f size : Nat)
  | bytes (l : List Nat)
def fieldFn (f : Nat) : FuncId := match f with
  | 1 => 150
  | 2 => 153
  | 3 => 149
  | 4 => 151
  | _ => 152
def PartAt (B : Nat) (w : World) (v : Value) : PartV → Prop
  | .num f size => v = .iface 241 (.agg #[.func (.func (fieldFn f)) #[] #[], .int .i64 size]) ∧ 1 ≤ f ∧ f ≤ 5 ∧ 1 ≤ size ∧ size ≤ 7
  | .bytes l => ∃ g, B ≤ g ∧ v = .iface 243 (.agg #[.slice (some ⟨g, 0, none⟩) l.length l.length]) ∧ Blk w g (ints (nats l)) 3 ∧ (0 < l.length ∧ l.length ≤ 100) ∧ ∀ x ∈ l, x ≤ 32
def mpParts (k : Nat) : List PartV := match k with
  | 0 => [.num 3 4, .bytes [32]]
  | 1 => [.num 1 1, .num 4 4, .num 5 4]
  | 3 => [.bytes [8, 16]]
  | 4 => [.num 3 6]
  | 5 => [.bytes [32]]
  | 6 => [.num 3 2]
  | 7 => [.num 1 1, .num 3 4]
  | 8 => [.num 1 1, .num 3 4]
  | 9 => [.num 1 1, .num 2 1, .num 3 4]
  | 10 => [.num 3 4]
  | 11 => [.num 3 1]
  | _ => []
/-- Parts in memory, from block B on. -/
def PartsIn (B : Nat) (w : World) (b : Nat) (l : List PartV) : Prop := B ≤ b ∧ ∃ vs : List Value, vs.length = l.length ∧ Blk w b vs.toArray 182 ∧ ∀ i (h : i < l.length) (h' : i < vs.length), PartAt B w vs[i] l[i]
theorem PartAt.touch {B : Nat} {w w' : World} {v : Value} {p : PartV} (h : PartAt B w v p) {S : Nat → Prop} (hg : Touch w w' S) (hS : ∀ k, B ≤ k → ¬ S k) : PartAt B w' v p := by
  cases p with
  | num f size => exact h
  | bytes l =>
    obtain ⟨g, hB, rfl, hb, h0, h1⟩ := h
    exact ⟨g, hB, rfl, hb.touch hg (hS g hB), h0, h1⟩
theorem PartsIn.touch {B : Nat} {w w' : World} {b : Nat} {l : List PartV} (h : PartsIn B w b l) {S : Nat → Prop} (hg : Touch w w' S) (hS : ∀ k, B ≤ k → ¬ S k) : PartsIn B w' b l := by
  obtain ⟨hB, vs, h1, h2, h3⟩ := h
  exact ⟨hB, vs, h1, h2.touch hg (hS b hB), fun i h h' => (h3 i h h').touch hg hS⟩
theorem PartsIn.one {B : Nat} {w : World} {b : Nat} {v0 : Value} {p0 : PartV} (hB : B ≤ b) (h : Blk w b #[v0] 182) (h0 : PartAt B w v0 p0) : PartsIn B w b [p0] :=
  ⟨hB, [v0], rfl, h, fun i h h' => by match i, h with | 0, _ => exact h0⟩
theorem PartsIn.two {B : Nat} {w : World} {b : Nat} {v0 v1 : Value} {p0 p1 : PartV} (hB : B ≤ b) (h : Blk w b #[v0, v1] 182) (h0 : PartAt B w v0 p0) (h1 : PartAt B w v1 p1) : PartsIn B w b [p0, p1] :=
  ⟨hB, [v0, v1], rfl, h, fun i h h' => by match i, h with | 0, _ => exact h0 | 1, _ => exact h1⟩
theorem PartsIn.three {B : Nat} {w : World} {b : Nat} {v0 v1 v2 : Value} {p0 p1 p2 : PartV} (hB : B ≤ b) (h : Blk w b #[v0, v1, v2] 182) (h0 : PartAt B w v0 p0) (h1 : PartAt B w v1 p1) (h2 : PartAt B w v2 p2) : PartsIn B w b [p0, p1, p2] :=
  ⟨hB, [v0, v1, v2], rfl, h, fun i h h' => by match i, h with | 0, _ => exact h0 | 1, _ => exact h1 | 2, _ => exact h2⟩
theorem numAt (B : Nat) (w : World) (f size : Nat) (h : 1 ≤ f ∧ f ≤ 5 ∧ 1 ≤ size ∧ size ≤ 7) : PartAt B w (.iface 241 (.agg #[.func (.func (fieldFn f)) #[] #[], .int .i64 size])) (.num f size) := ⟨rfl, h⟩
theorem bytesAt (B : Nat) (w : World) (g : Nat) (l : List Nat) (hB : B ≤ g) (hb : Blk w g (ints (nats l)) 3) (h0 : 0 < l.length ∧ l.length ≤ 100) (h1 : ∀ x ∈ l, x ≤ 32) : PartAt B w (.iface 243 (.agg #[.slice (some ⟨g, 0, none⟩) l.length l.length])) (.bytes l) := ⟨g, hB, rfl, hb, h0, h1⟩
def OfPost (w : World) (k : Nat) (e : Ending) (w' : World) : Prop := ∃ b, e = .returned (.tuple #[.slice (some ⟨b, 0, none⟩) (mpParts k).length (mpParts k).length, .bool true]) ∧ PartsIn w.heap.size w' b (mpParts k) ∧ Below w.heap.size w w'

/-- Which method of an interface value is meant. -/
theorem meth_num_read (v : Value) (w : World) : (method 404 241 v "anabranch/mpopt.read").run Tryz.prog w = .ok (228, v) w := by kernel_rfl
theorem meth_bytes_read (v : Value) (w : World) : (method 404 243 v "anabranch/mpopt.read").run Tryz.prog w = .ok (231, v) w := by kernel_rfl

set_option maxHeartbeats 400000 in
theorem mpField (f b : Nat) (w : World) (h1 : 1 ≤ f) (h5 : f ≤ 5) :
    Calls Tryz.prog (fieldFn f) #[.pointer (some ⟨b, 0, none⟩)] w fun e w' => e = .returned (.pointer (some ⟨b, f, none⟩)) ∧ w' = w := by
  match f, h1, h5 with
  | 1, _, _ =>
    show Calls _ 150 _ _ _
    go_enter Tryz.func150, Tryz.ntmps150
    go_wp2_with fail
    go_ret
    exact ⟨rfl, rfl⟩
  | 2, _, _ =>
    show Calls _ 153 _ _ _
    go_enter Tryz.func153, Tryz.ntmps153
    go_wp2_with fail
    go_ret
    exact ⟨rfl, rfl⟩
  | 3, _, _ =>
    show Calls _ 149 _ _ _
    go_enter Tryz.func149, Tryz.ntmps149
    go_wp2_with fail
    go_ret
    exact ⟨rfl, rfl⟩
  | 4, _, _ =>
    show Calls _ 151 _ _ _
    go_enter Tryz.func151, Tryz.ntmps151
    go_wp2_with fail
    go_ret
    exact ⟨rfl, rfl⟩
  | 5, _, _ =>
    show Calls _ 152 _ _ _
    go_enter Tryz.func152, Tryz.ntmps152
    go_wp2_with fail
    go_ret
    exact ⟨rfl, rfl⟩

set_option maxRecDepth 100000 in
set_option maxHeartbeats 4000000 in
theorem mpOf (k : Nat) (w : World) (hk : mpKnown k = true) :
    Calls Tryz.prog 100 #[.int .i64 k] w (OfPost w k) := by
  rcases known_cases hk with rfl | rfl | rfl | rfl | rfl | rfl | rfl | rfl | rfl | rfl | rfl
  all_goals
    clear hk
    go_enter Tryz.func100, Tryz.ntmps100
    go_wp2_with fail
    go_ret2
  · exact ⟨w.heap.size + 1, rfl, PartsIn.two (by omega) (Blk.new2 w _ _ _) (numAt _ _ 3 4 (by decide)) (bytesAt _ _ w.heap.size [32] (by omega) ((Blk.new w (ints (nats [32])) _).alloc _) (by decide) (by decide)), ((Below.refl _ _).alloc (Nat.le_refl _) _).alloc (by simp) _⟩
  · exact ⟨w.heap.size, rfl, PartsIn.three (by omega) (Blk.new w _ _) (numAt _ _ 1 1 (by decide)) (numAt _ _ 4 4 (by decide)) (numAt _ _ 5 4 (by decide)), (Below.refl _ _).alloc (Nat.le_refl _) _⟩
  · exact ⟨w.heap.size + 1, rfl, PartsIn.one (by omega) (Blk.new2 w _ _ _) (bytesAt _ _ w.heap.size [8, 16] (by omega) ((Blk.new w (ints (nats [8, 16])) _).alloc _) (by decide) (by decide)), ((Below.refl _ _).alloc (Nat.le_refl _) _).alloc (by simp) _⟩
  · exact ⟨w.heap.size, rfl, PartsIn.one (by omega) (Blk.new w _ _) (numAt _ _ 3 6 (by decide)), (Below.refl _ _).alloc (Nat.le_refl _) _⟩
  · exact ⟨w.heap.size + 1, rfl, PartsIn.one (by omega) (Blk.new2 w _ _ _) (bytesAt _ _ w.heap.size [32] (by omega) ((Blk.new w (ints (nats [32])) _).alloc _) (by decide) (by decide)), ((Below.refl _ _).alloc (Nat.le_refl _) _).alloc (by simp) _⟩
  · exact ⟨w.heap.size, rfl, PartsIn.one (by omega) (Blk.new w _ _) (numAt _ _ 3 2 (by decide)), (Below.refl _ _).alloc (Nat.le_refl _) _⟩
  · exact ⟨w.heap.size, rfl, PartsIn.two (by omega) (Blk.new w _ _) (numAt _ _ 1 1 (by decide)) (numAt _ _ 3 4 (by decide)), (Below.refl _ _).alloc (Nat.le_refl _) _⟩
  · exact ⟨w.heap.size, rfl, PartsIn.two (by omega) (Blk.new w _ _) (numAt _ _ 1 1 (by decide)) (numAt _ _ 3 4 (by decide)), (Below.refl _ _).alloc (Nat.le_refl _) _⟩
  · exact ⟨w.heap.size, rfl, PartsIn.three (by omega) (Blk.new w _ _) (numAt _ _ 1 1 (by decide)) (numAt _ _ 2 1 (by decide)) (numAt _ _ 3 4 (by decide)), (Below.refl _ _).alloc (Nat.le_refl _) _⟩
  · exact ⟨w.heap.size, rfl, PartsIn.one (by omega) (Blk.new w _ _) (numAt _ _ 3 4 (by decide)), (Below.refl _ _).alloc (Nat.le_refl _) _⟩
  · exact ⟨w.heap.size, rfl, PartsIn.one (by omega) (Blk.new w _ _) (numAt _ _ 3 1 (by decide)), (Below.refl _ _).alloc (Nat.le_refl _) _⟩
set_option maxRecDepth 100000 in
set_option maxHeartbeats 4000000 in
theorem mpOf_no (k : Nat) (w : World) (hk : mpKnown k = false) :
    Calls Tryz.prog 100 #[.int .i64 k] w fun e w' => e = .returned (.tuple #[.slice none 0 0, .bool false]) ∧ w' = w := by
  have h : ∀ n : Nat, mpKnown n = true → ((k : Int) == n) = false := fun n hn => by
    rw [beq_eq_false_iff_ne]
    intro e
    obtain rfl : k = n := by omega
    rw [hk] at hn
    cases hn
  have h0 := h 0 rfl
  have h1 := h 1 rfl
  have h3 := h 3 rfl
  have h4 := h 4 rfl
  have h5 := h 5 rfl
  have h6 := h 6 rfl
  have h7 := h 7 rfl
  have h8 := h 8 rfl
  have h9 := h 9 rfl
  have h10 := h 10 rfl
  have h11 := h 11 rfl
  clear h hk
  go_enter Tryz.func100, Tryz.ntmps100
  go_wp2_with fail
  go_ret2
  exact ⟨rfl, rfl⟩

/-- A number is read into its field. -/
def MultiV.set (m : MultiV) (f : Nat) (n : Int) : MultiV := match f with
  | 1 => { m with addr := n }
  | 2 => { m with prio := n }
  | 3 => { m with num := n }
  | 4 => { m with token := n }
  | _ => { m with nonce := n }
theorem MultiV.set_cells (m : MultiV) (f : Nat) (n : Int) (h1 : 1 ≤ f) (h5 : f ≤ 5) : m.cells.setIfInBounds f (.int .i64 n) = (m.set f n).cells := by
  match f, h1, h5 with
  | 1, _, _ => rfl
  | 2, _, _ => rfl
  | 3, _, _ => rfl
  | 4, _, _ => rfl
  | 5, _, _ => rfl
theorem MultiV.at (m : MultiV) (f : Nat) (h1 : 1 ≤ f) (h5 : f ≤ 5) : ∃ n, m.cells[f]? = some (.int .i64 n) := by
  match f, h1, h5 with
  | 1, _, _ => exact ⟨_, rfl⟩
  | 2, _, _ => exact ⟨_, rfl⟩
  | 3, _, _ => exact ⟨_, rfl⟩
  | 4, _, _ => exact ⟨_, rfl⟩
  | 5, _, _ => exact ⟨_, rfl⟩

theorem fieldFn_enters (f : Nat) (h1 : 1 ≤ f) (h5 : f ≤ 5) : ∀ args w, (callFunc (fieldFn f) args).run Tryz.prog w = .ok (.enter (fieldFn f) args) w := by
  match f, h1, h5 with
  | 1, _, _ => intro args w; kernel_rfl
  | 2, _, _ => intro args w; kernel_rfl
  | 3, _, _ => intro args w; kernel_rfl
  | 4, _, _ => intro args w; kernel_rfl
  | 5, _, _ => intro args w; kernel_rfl
set_option maxRecDepth 100000 in
set_option maxHeartbeats 1000000 in
theorem mpNumRead (f size bc bm : Nat) (s : ByteArray) (p : Nat) (fell : Int) (m : MultiV) (w : World) (hf : 1 ≤ f ∧ f ≤ 5 ∧ 1 ≤ size ∧ size ≤ 7) (hs : s.size ≤ 1099511627776) (hat : p ≤ s.size)
    (hne : bc ≠ bm) (hc : CutAt 224 w bc s p fell) (hm : Blk w bm m.cells 65) :
    Calls Tryz.prog 228 #[.agg #[.func (.func (fieldFn f)) #[] #[], .int .i64 size], .pointer (some ⟨bc, 0, none⟩), .pointer (some ⟨bm, 0, none⟩)] w fun e w' =>
      e = .returned (.tuple #[]) ∧ CutAt 224 w' bc s (bytesP s p fell size) (bytesF s p fell size) ∧ Blk w' bm (m.set f (ofB (bytesS s p fell size) : Nat)).cells 65 ∧ Touch w w' (fun k => k = bc ∨ k = bm) := by
  obtain ⟨h1, h5, hs1, hs7⟩ := hf
  obtain ⟨n0, hn0⟩ := MultiV.at m f h1 h5
  have qm := hm.cell f
  have zm := hm.frozen f
  rw [hn0] at qm
  have HC := Lib.hid hc
  have HM := Lib.hid hm
  have hlc := hc.lt
  have hlm := hm.lt
  have hn0 := Lib.hid hn0
  clear hc hm
  have eF := fieldFn_enters f h1 h5
  go_enter Tryz.func228, Tryz.ntmps228
  go_wp2_with fail
  obtain ⟨w0, hw0⟩ : ∃ w0, w0 = w.alloc (.cells #[.func (.func (fieldFn f)) #[] #[], .int .i64 size] 241) := ⟨_, rfl⟩
  rw [← hw0]
  have B0 := Lib.hid (show Blk w0 w.heap.size _ _ by rw [hw0]; exact Blk.new _ _ _)
  have HC0 := Lib.hid (show CutAt 224 w0 bc s p fell by rw [hw0]; exact HC.out.alloc _)
  have HM0 := Lib.hid (show Blk w0 bm m.cells 65 by rw [hw0]; exact HM.out.alloc _)
  have T0 := Lib.hid (show Touch w w0 (fun k => k = bc ∨ k = bm) by rw [hw0]; exact (Touch.refl _ _).alloc _)
  have hz0 : w0.heap.size = w.heap.size + 1 := by rw [hw0]; simp
  have HZ0 := Lib.hid hz0
  have q0 : w0.cell? ⟨w.heap.size, 0, none⟩ = some (.func (.func (fieldFn f)) #[] #[]) := by rw [B0.out.cell 0]; rfl
  have q1 : w0.cell? ⟨w.heap.size, 1, none⟩ = some (.int .i64 size) := by rw [B0.out.cell 1]; rfl
  have qm' : w0.cell? ⟨bm, f, none⟩ = some (.int .i64 n0) := by rw [hw0, cell_alloc (by exact hlm)]; exact qm
  have zm' := HM0.out.frozen f
  clear hw0 hz0 qm zm HC HM
  go_region_held3 (fun w' => w'.cell? ⟨w.heap.size, 0, none⟩ = some (.func (.func (fieldFn f)) #[] #[]) ∧ w'.cell? ⟨w.heap.size, 1, none⟩ = some (.int .i64 size)) (first | (with_reducible assumption) | exact ⟨q0, q1⟩ | exact ⟨(HK4.out.cell 0).trans rfl, (HK4.out.cell 1).trans rfl⟩ | exact ⟨(Blk.cell (HK4.out.setOther (by simp; omega) _) 0).trans rfl, (Blk.cell (HK4.out.setOther (by simp; omega) _) 1).trans rfl⟩) (first | (go_at_call 93; refine (cutNum bc s p fell size _ hs hat hs1 hs7 (HC0.out.drew)).mono ?_; rintro e w4 ⟨rfl, hc4, hg4⟩; have HC4 := Lib.hid hc4; have HG4 := Lib.hid hg4; have HK4 := Lib.hid (Blk.grown B0.out.drew hg4 (by simp; omega)); have HM4 := Lib.hid (Blk.grown HM0.out.drew hg4 (by simp; omega)); have qm4 := HM4.out.cell f; rw [hn0.out] at qm4; have zm4 := HM4.out.frozen f; clear hc4 hg4) | (refine (mpField f bm _ h1 h5).mono ?_; rintro e w5 ⟨rfl, rfl⟩))
  all_goals
    go_wp2_with fail
    go_end0
    refine ⟨rfl, Blk.setOther HC4.out (by simpa using hne) _, ?_, ?_⟩
    · rw [← MultiV.set_cells m f _ h1 h5]
      exact HM4.out.setCell f _
    · exact (T0.out.drew.trans ((Touch.of_grown HG4.out).mono (fun i _ hi => by simp at hi; exact .inl hi.symm))).setCell _ (fun _ => .inr rfl) _
end Go.Proofs.YtjboillkhhefaaaGreatDoor
