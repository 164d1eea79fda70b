/- The program's tags: Data, Control, Confirm. -/
import Derived.Test.YtjboillkhhefaaaGreatDoorKeys
import Derived.Deep.RegionHeld3
set_option linter.unusedVariables false
namespace Go.Proofs.YtjboillkhhefaaaGreatDoor
open Go.RowKit

theorem bnext {w a b : World} (h : Below w.heap.size w a) (k : Below a.heap.size a b) : Below w.heap.size w b := h.trans (k.mono h.size)
theorem bnextA {w a : World} (h : Below w.heap.size w a) (o : Obj) : Below w.heap.size w (a.alloc o) := h.alloc h.size o
theorem PartsAt.new (w : World) (l : List ByteArray) (T : TypeId) : PartsAt (w.alloc (.cells (l.map Value.string).toArray T)) w.heap.size l :=
  ⟨by simp, fun i hi => by rw [(Blk.new w _ _).cell i]; simp [hi, List.getD]⟩
theorem PartsAt.new1 (w : World) (x : ByteArray) (T : TypeId) : PartsAt (w.alloc (.cells #[.string x] T)) w.heap.size [x] := PartsAt.new w [x] T
theorem PartsAt.new2 (w : World) (x y : ByteArray) (T : TypeId) : PartsAt (w.alloc (.cells #[.string x, .string y] T)) w.heap.size [x, y] := PartsAt.new w [x, y] T
theorem PartsAt.new3 (w : World) (x y z : ByteArray) (T : TypeId) : PartsAt (w.alloc (.cells #[.string x, .string y, .string z] T)) w.heap.size [x, y, z] := PartsAt.new w [x, y, z] T
/-- The tag of a pair of keys. -/
theorem keysTagAny (a b : ByteArray) (k side : Int) (pb c n : Nat) (l : List ByteArray) (w : World) (hk : KeyPair a b) (hl : (joinB l).size ≤ 1099511600) (hn : l.length ≤ 9) (hnl : n = l.length) (hp : PartsAt w pb l) :
    Calls Tryz.prog 51 #[.agg #[.string a, .string b], .int .i64 k, .int .i64 side, .slice (some ⟨pb, 0, none⟩) n c] w fun e w' => e = .returned (.string (tagOf a b (tagText k side l))) ∧ Below w.heap.size w w' := by
  subst hnl
  rcases hk with ⟨h1, h2⟩ | ⟨rfl, rfl⟩
  · refine (keysTag a b k side pb c l w h1 h2 hl hn hp).mono ?_
    rintro e w' ⟨rfl, hb⟩
    exact ⟨ret_str (by rw [tagOf, if_neg (by omega)]), hb⟩
  · refine (keysTag_no k side _ w).mono ?_
    rintro e w' ⟨rfl, hb⟩
    exact ⟨rfl, hb⟩

/-- octets.Put, the size an integer that the call shows. -/
theorem octPutZ (s : ByteArray) (n m : Int) (w : World) (hs : s.size ≤ 1099511627776) (h0 : 0 ≤ m) (h8 : m ≤ 8) :
    Calls Tryz.prog 52 #[.string s, .int .i64 n, .int .i64 m] w fun e w' => e = .returned (.string (s ++ beB m.toNat (u64 n))) ∧ Below w.heap.size w w' := by
  obtain ⟨k, rfl⟩ : ∃ k : Nat, m = k := ⟨m.toNat, by omega⟩
  exact octPut s n k w hs (by omega)
theorem octPutE (n m : Int) (w : World) (h0 : 0 ≤ m) (h8 : m ≤ 8) :
    Calls Tryz.prog 52 #[.string ⟨#[]⟩, .int .i64 n, .int .i64 m] w fun e w' => e = .returned (.string (beB m.toNat (u64 n))) ∧ Below w.heap.size w w' := by
  refine (octPutZ ⟨#[]⟩ n m w (by show 0 ≤ _; omega) h0 h8).mono ?_
  rintro e w' ⟨rfl, hb⟩
  exact ⟨ret_str (empty_app _), hb⟩

def dataText (side num trip : Int) (data : ByteArray) : ByteArray := tagText 1 side [beB 6 (u64 num), beB 2 (u64 trip), data]
def confirmText (side num : Int) : ByteArray := tagText 3 side [beB 4 (u64 num)]

set_option maxRecDepth 100000 in
set_option maxHeartbeats 1000000 in
theorem keysData (a b : ByteArray) (side num trip : Int) (data : ByteArray) (w : World) (hk : KeyPair a b) (hd : data.size ≤ 1099511000) :
    Calls Tryz.prog 24 #[.agg #[.string a, .string b], .int .i64 side, .int .i64 num, .int .i64 trip, .string data] w fun e w' => e = .returned (.string (tagOf a b (dataText side num trip data))) ∧ Below w.heap.size w w' := by
  have HK := Lib.hid hk
  clear hk
  have HZ : Hid ((joinB [beB 6 (u64 num), beB 2 (u64 trip), data]).size ≤ 1099511600) := Lib.hid (by rw [joinB_size]; simp [beB_size]; omega)
  have HT : Hid (dataText side num trip data = tagText 1 side [beB 6 (u64 num), beB 2 (u64 trip), data]) := rfl
  go_enter Tryz.func24, Tryz.ntmps24
  go_wp2_with fail
  obtain ⟨w0, hw0⟩ : ∃ w0, w0 = w.alloc (.cells #[.string a, .string b] 27) := ⟨_, rfl⟩
  rw [← hw0]
  have B0 : Blk w0 w.heap.size #[.string a, .string b] 27 := by rw [hw0]; exact Blk.new _ _ _
  have hb0 : Below w.heap.size w w0 := by rw [hw0]; exact (Below.refl _ _).alloc (Nat.le_refl _) _
  have q0 : w0.cell? ⟨w.heap.size, 0, none⟩ = some (.string a) := B0.cell 0
  have q1 : w0.cell? ⟨w.heap.size, 1, none⟩ = some (.string b) := B0.cell 1
  have PK := Lib.hid (And.intro HK (And.intro HZ (And.intro HT (And.intro hb0 B0))))
  clear hw0 HK HZ HT hb0 B0 hd
  go_region_held3 (fun w' => w'.cell? ⟨w.heap.size, 0, none⟩ = some (.string a) ∧ w'.cell? ⟨w.heap.size, 1, none⟩ = some (.string b)) (first | ((repeat' apply And.intro) <;> (first | (with_reducible assumption) | (simp only [World.cell?_drew]; with_reducible assumption))) | (refine And.imp (fun h => cell_later (by with_reducible assumption) h) (fun h => cell_later (by with_reducible assumption) h) ?_; (first | (with_reducible assumption) | ((repeat' apply And.intro) <;> (first | (with_reducible assumption) | (simp only [World.cell?_drew]; with_reducible assumption))))) | (refine And.imp (fun h => cell_later ((Below.refl _ _).alloc (Nat.le_refl _) _) h) (fun h => cell_later ((Below.refl _ _).alloc (Nat.le_refl _) _) h) ?_; with_reducible assumption)) (first | (go_at_call 52; refine (octPutE _ _ _ (by omega) (by omega)).mono ?_; rintro e w2 ⟨rfl, hb2⟩) | (go_at_call 51; refine (keysTagAny a b 1 side _ _ 3 [beB 6 (u64 num), beB 2 (u64 trip), data] _ PK.out.1.out PK.out.2.1.out (by simp) rfl (PartsAt.new3 _ (beB 6 (u64 num)) (beB 2 (u64 trip)) data _)).mono ?_; rintro e w5 ⟨rfl, hb5⟩))
  all_goals
    go_wp2_with fail
    go_ret
    exact ⟨ret_str (by rw [PK.out.2.2.1.out]), bnext (bnextA (bnext (bnext PK.out.2.2.2.1.drew (by with_reducible assumption)) (by with_reducible assumption)) _) hb5⟩

set_option maxRecDepth 100000 in
set_option maxHeartbeats 1000000 in
theorem keysConfirm (a b : ByteArray) (side num : Int) (w : World) (hk : KeyPair a b) :
    Calls Tryz.prog 38 #[.agg #[.string a, .string b], .int .i64 side, .int .i64 num] w fun e w' => e = .returned (.string (tagOf a b (confirmText side num))) ∧ Below w.heap.size w w' := by
  have HK := Lib.hid hk
  clear hk
  have HZ : Hid ((joinB [beB 4 (u64 num)]).size ≤ 1099511600) := Lib.hid (by rw [joinB_size]; simp [beB_size])
  have HT : Hid (confirmText side num = tagText 3 side [beB 4 (u64 num)]) := rfl
  go_enter Tryz.func38, Tryz.ntmps38
  go_wp2_with fail
  obtain ⟨w0, hw0⟩ : ∃ w0, w0 = w.alloc (.cells #[.string a, .string b] 27) := ⟨_, rfl⟩
  rw [← hw0]
  have B0 : Blk w0 w.heap.size #[.string a, .string b] 27 := by rw [hw0]; exact Blk.new _ _ _
  have hb0 : Below w.heap.size w w0 := by rw [hw0]; exact (Below.refl _ _).alloc (Nat.le_refl _) _
  have q0 : w0.cell? ⟨w.heap.size, 0, none⟩ = some (.string a) := B0.cell 0
  have q1 : w0.cell? ⟨w.heap.size, 1, none⟩ = some (.string b) := B0.cell 1
  have PK := Lib.hid (And.intro HK (And.intro HZ (And.intro HT (And.intro hb0 B0))))
  clear hw0 HK HZ HT hb0 B0
  go_region_held3 (fun w' => w'.cell? ⟨w.heap.size, 0, none⟩ = some (.string a) ∧ w'.cell? ⟨w.heap.size, 1, none⟩ = some (.string b)) (first | ((repeat' apply And.intro) <;> (first | (with_reducible assumption) | (simp only [World.cell?_drew]; with_reducible assumption))) | (refine And.imp (fun h => cell_later (by with_reducible assumption) h) (fun h => cell_later (by with_reducible assumption) h) ?_; (first | (with_reducible assumption) | ((repeat' apply And.intro) <;> (first | (with_reducible assumption) | (simp only [World.cell?_drew]; with_reducible assumption))))) | (refine And.imp (fun h => cell_later ((Below.refl _ _).alloc (Nat.le_refl _) _) h) (fun h => cell_later ((Below.refl _ _).alloc (Nat.le_refl _) _) h) ?_; with_reducible assumption)) (first | (go_at_call 52; refine (octPutE _ _ _ (by omega) (by omega)).mono ?_; rintro e w2 ⟨rfl, hb2⟩) | (go_at_call 51; refine (keysTagAny a b 3 side _ _ 1 [beB 4 (u64 num)] _ PK.out.1.out PK.out.2.1.out (by simp) rfl (PartsAt.new1 _ (beB 4 (u64 num)) _)).mono ?_; rintro e w5 ⟨rfl, hb5⟩))
  all_goals
    go_wp2_with fail
    go_ret
    exact ⟨ret_str (by rw [PK.out.2.2.1.out]), bnext (bnextA (bnext PK.out.2.2.2.1.drew (by with_reducible assumption)) _) hb5⟩

def ctlTo (n : Int) (l : List Int) (k : Nat) : ByteArray := (l.take k).foldl (fun s x => s ++ beB 1 (u64 x)) (beB 4 (u64 n))
theorem ctlTo_succ (n : Int) (l : List Int) (k : Nat) (h : k < l.length) : ctlTo n l (k + 1) = ctlTo n l k ++ beB 1 (u64 (l.getD k 0)) := by
  unfold ctlTo
  rw [List.take_succ_eq_append_getElem h, List.foldl_append]
  simp [List.getD, h]
theorem ctlTo_size (n : Int) (l : List Int) (k : Nat) (h : k ≤ l.length) : (ctlTo n l k).size = 4 + k := by
  induction k with
  | zero => exact beB_size _ _
  | succ k ih => rw [ctlTo_succ n l k (by omega), ByteArray.size_append, ih (by omega), beB_size]; omega
def controlText (side num kind addr prio : Int) : ByteArray := tagText 2 side [beB 4 (u64 num) ++ beB 1 (u64 kind) ++ beB 1 (u64 addr) ++ beB 1 (u64 prio)]
set_option maxRecDepth 100000 in
set_option maxHeartbeats 1000000 in
theorem keysControl (a b : ByteArray) (side num kind addr prio : Int) (w : World) (hk : KeyPair a b) :
    Calls Tryz.prog 36 #[.agg #[.string a, .string b], .int .i64 side, .agg #[.int .i64 num, .int .i64 kind, .int .i64 addr, .int .i64 prio]] w fun e w' => e = .returned (.string (tagOf a b (controlText side num kind addr prio))) ∧ Below w.heap.size w w' := by
  have HK := Lib.hid hk
  clear hk
  go_enter Tryz.func36, Tryz.ntmps36
  go_wp2_with fail
  refine (octPutE num 4 _ (by omega) (by omega)).mono ?_
  rintro e w1 ⟨rfl, hb1⟩
  rw [show (4 : Int).toNat = 4 from rfl]
  have B0 := Lib.hid (Blk.below (Blk.alloc (Blk.new w #[.string a, .string b] 27) (.cells #[.int .i64 num, .int .i64 kind, .int .i64 addr, .int .i64 prio] 80)) hb1 (by simp; omega))
  have B1 := Lib.hid (Blk.below (Blk.new2 w (.cells #[.string a, .string b] 27) #[.int .i64 num, .int .i64 kind, .int .i64 addr, .int .i64 prio] 80) hb1 (by simp))
  have HB1 : Hid (Below w.heap.size w w1) := Lib.hid (bnext (bnextA (bnextA (Below.refl _ _) _) _) hb1)
  have q1 := B1.out.cell 1
  have q2 := B1.out.cell 2
  have q3 := B1.out.cell 3
  simp at q1 q2 q3
  have HS : Hid (ctlTo num [kind, addr, prio] 0 = beB 4 (u64 num)) := rfl
  have HE : Hid (controlText side num kind addr prio = tagText 2 side [ctlTo num [kind, addr, prio] 3]) := rfl
  clear hb1
  go_wp2_with fail
  have BS : Hid (Blk (w1.alloc (.cells #[.int .i64 kind, .int .i64 addr, .int .i64 prio] 3)) w1.heap.size #[.int .i64 kind, .int .i64 addr, .int .i64 prio] 3) := Lib.hid (Blk.new _ _ _)
  have hl0 := B0.out.lt
  have hl1 := B1.out.lt
  go_loopw [7, 21] (fun t c wr => ∃ k : Nat, k ≤ 3 ∧ t = .string (ctlTo num [kind, addr, prio] k) ∧ c = .int .i64 k ∧ Below (w1.heap.size + 1) (w1.alloc (.cells #[.int .i64 kind, .int .i64 addr, .int .i64 prio] 3)) wr) (fun _ c _ => 3 - (intOf c).toNat)
  case atStart => exact ⟨0, by omega, by rw [HS.out], rfl, Below.refl _ _⟩
  case round =>
    obtain ⟨k, hk, rfl, rfl, hb⟩ := hrel
    have hsz := ctlTo_size num [kind, addr, prio] k (by simpa using hk)
    have HB := Lib.hid hb
    have q := (BS.out.below hb (by omega)).cell k
    by_cases hlt : k < 3
    · have hk3 : (k : Int) < 3 := by omega
      have HJ := Lib.hid (ctlTo_succ num [kind, addr, prio] k (by simpa using hlt))
      have e : (#[.int .i64 kind, .int .i64 addr, .int .i64 prio] : Array Value)[k]? = some (.int .i64 ([kind, addr, prio].getD k 0)) := by
        match k, hlt with
        | 0, _ => rfl
        | 1, _ => rfl
        | 2, _ => rfl
      rw [e] at q
      generalize hx : [kind, addr, prio].getD k 0 = x at *
      generalize hs : ctlTo num [kind, addr, prio] k = t0 at *
      clear hb e hx hs
      go_wp2_with fail
      refine (octPutZ t0 x 1 _ (by omega) (by omega) (by omega)).mono ?_
      rintro e w2 ⟨rfl, hb2⟩
      rw [show (1 : Int).toNat = 1 from rfl]
      go_wp2_with fail
      go_roundw
      case rel => exact ⟨k + 1, by omega, by rw [HJ.out], by go_num, HB.out.trans (hb2.mono (by have := HB.out.size; simp at this; omega))⟩
      case measure => simp [intOf]; omega
    · obtain rfl : k = 3 := by omega
      have p0 := ((B0.out.alloc (.cells #[.int .i64 kind, .int .i64 addr, .int .i64 prio] 3)).below hb (by omega)).cell 0
      have p1 := ((B0.out.alloc (.cells #[.int .i64 kind, .int .i64 addr, .int .i64 prio] 3)).below hb (by omega)).cell 1
      simp at p0 p1
      generalize hs : ctlTo num [kind, addr, prio] 3 = t0 at *
      have hA : Below w.heap.size w wr := (bnextA HB1.out _).trans (hb.mono (by have := HB1.out.size; omega))
      have HA := Lib.hid hA
      clear hb q hs hA q1 q2 q3
      go_wp2_with fail
      refine (keysTagAny a b 2 side _ _ 1 [t0] _ HK.out (by rw [joinB_size]; simp at hsz ⊢; omega) (by simp) rfl (PartsAt.new1 wr t0 _)).mono ?_
      rintro e w3 ⟨rfl, hb3⟩
      go_wp2_with fail
      go_ret
      exact ⟨ret_str (by rw [HE.out]), bnext (bnextA HA.out _) hb3⟩
end Go.Proofs.YtjboillkhhefaaaGreatDoor
