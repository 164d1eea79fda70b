/- The program's package mpopt: bytes.read, Get. -/
import Derived.Test.YtjboillkhhefaaaGreatDoorMpa
set_option linter.unusedVariables false
set_option linter.unusedSimpArgs false
namespace Go.Proofs.YtjboillkhhefaaaGreatDoor
open Go.RowKit

/-- How many bytes are read. -/
def mpPickTo (l : List Nat) (left k : Nat) : Nat := (l.take k).foldl (fun n k => if k ≤ left then max n k else n) (l.getD 0 0)
def mpPick (l : List Nat) (left : Nat) : Nat := mpPickTo l left l.length
theorem mpPickTo_succ (l : List Nat) (left k : Nat) (h : k < l.length) : mpPickTo l left (k + 1) = if l.getD k 0 ≤ left then max (mpPickTo l left k) (l.getD k 0) else mpPickTo l left k := by
  unfold mpPickTo
  rw [List.take_succ_eq_append_getElem h, List.foldl_append]
  simp [List.getD, h]
theorem mpPickTo_le (l : List Nat) (left k : Nat) (hl : ∀ x ∈ l, x ≤ 32) (hk : k ≤ l.length) (h0 : 0 < l.length) : mpPickTo l left k ≤ 32 := by
  have hg : ∀ i, i < l.length → l.getD i 0 ≤ 32 := fun i hi => by
    simp only [List.getD, List.getElem?_eq_getElem hi, Option.getD_some]; exact hl _ (List.getElem_mem hi)
  induction k with
  | zero => exact hg 0 h0
  | succ k ih =>
    have := ih (by omega)
    have := hg k (by omega)
    rw [mpPickTo_succ l left k (by omega)]
    split <;> omega

set_option maxRecDepth 100000 in
set_option maxHeartbeats 1000000 in
theorem mpBytesRead (l : List Nat) (g bc bm : Nat) (s : ByteArray) (p : Nat) (fell : Int) (m : MultiV) (w : World) (hg : Blk w g (ints (nats l)) 3) (h0 : 0 < l.length) (hl : ∀ x ∈ l, x ≤ 32) (hll : l.length ≤ 100) (hs : s.size ≤ 1099511627776) (hat : p ≤ s.size)
    (hne : bc ≠ bm) (hc : CutAt 224 w bc s p fell) (hm : Blk w bm m.cells 65) :
    Calls Tryz.prog 231 #[.agg #[.slice (some ⟨g, 0, none⟩) l.length l.length], .pointer (some ⟨bc, 0, none⟩), .pointer (some ⟨bm, 0, none⟩)] w fun e w' =>
      e = .returned (.tuple #[]) ∧ CutAt 224 w' bc s (bytesP s p fell (mpPick l (s.size - p) : Nat)) (bytesF s p fell (mpPick l (s.size - p) : Nat)) ∧ Blk w' bm ({ m with bytes := bytesS s p fell (mpPick l (s.size - p) : Nat) } : MultiV).cells 65 ∧ Touch w w' (fun k => k = bc ∨ k = bm) := by
  have hgl : ∀ i, i < l.length → l.getD i 0 ≤ 32 := fun i hi => by
    simp only [List.getD, List.getElem?_eq_getElem hi, Option.getD_some]; exact hl _ (List.getElem_mem hi)
  have HL := Lib.hid hl
  have HGL := Lib.hid hgl
  have hgb := hg.lt
  have q0 := hg.cell 0
  rw [ints_get _ _ (by rw [nats_length]; omega), nats_getD] at q0
  have HG := Lib.hid hg
  have HC := Lib.hid hc
  have HM := Lib.hid hm
  have hlc := hc.lt
  have hlm := hm.lt
  have h0' : (0 : Int) < l.length := by omega
  have hp0 : mpPickTo l (s.size - p) 0 = l.getD 0 0 := rfl
  generalize l.getD 0 0 = x0 at *
  have HP := Lib.hid hp0
  have hle : (s.size : Int) - p = ((s.size - p : Nat) : Int) := by omega
  have hpk : mpPick l (s.size - p) = mpPickTo l (s.size - p) l.length := rfl
  have HPK := Lib.hid hpk
  generalize mpPick l (s.size - p) = pk at *
  clear hg hc hm hgl hl hp0 hle hpk
  go_enter Tryz.func231, Tryz.ntmps231
  go_wp2_with fail
  go_loopw [6, 16] (fun n c wr => ∃ k : Nat, k ≤ l.length ∧ n = .int .i64 (mpPickTo l (s.size - p) k) ∧ c = .int .i64 k ∧ ∃ d, wr = (w.alloc (.cells #[.slice (some ⟨g, 0, none⟩) l.length l.length] 243)).drewN d) (fun _ c _ => l.length - (intOf c).toNat)
  case atStart => exact ⟨0, by omega, by rw [HP.out], rfl, 0, rfl⟩
  case round =>
    obtain ⟨k, hk, rfl, rfl, d, rfl⟩ := hrel
    have hpl := mpPickTo_le l (s.size - p) k HL.out hk h0
    by_cases hlt : k < l.length
    · have hlt' : (k : Int) < l.length := by omega
      have hk0 : (0 : Int) ≤ k := by omega
      have qk := HG.out.cell k
      rw [ints_get _ _ (by rw [nats_length]; omega), nats_getD] at qk
      have hk32 := HGL.out k hlt
      have HS := Lib.hid (mpPickTo_succ l (s.size - p) k hlt)
      generalize hx : l.getD k 0 = x at *
      generalize hy : mpPickTo l (s.size - p) k = y at *
      have HX := Lib.hid hx
      have HY := Lib.hid hy
      clear hx hy
      by_cases hle : x ≤ s.size - p
      · have hle' : (x : Int) ≤ ((s.size - p : Nat) : Int) := by omega
        go_wp2_with fail
        refine (cutLeft bc s p fell _ hs hat ((HC.out.alloc _).drewN _)).mono ?_
        rintro e w1 ⟨rfl, d1, rfl⟩
        go_wp2_with fail
        go_roundw
        case rel => exact ⟨k + 1, by omega, by rw [HS.out, if_pos hle]; exact congrArg (Value.int .i64) (by omega), by go_num, _, rfl⟩
        case measure => simp [intOf]; omega
      · have hle' : ¬ (x : Int) ≤ ((s.size - p : Nat) : Int) := by omega
        go_wp2_with fail
        refine (cutLeft bc s p fell _ hs hat ((HC.out.alloc _).drewN _)).mono ?_
        rintro e w1 ⟨rfl, d1, rfl⟩
        go_wp2_with fail
        go_roundw
        case rel => exact ⟨k + 1, by omega, by rw [HS.out, if_neg hle], by go_num, _, rfl⟩
        case measure => simp [intOf]; omega
    · obtain rfl : k = l.length := by omega
      rw [← HPK.out] at hpl ⊢
      have hpl' : (pk : Int) ≤ 32 := by omega
      go_wp2_with fail
      refine (cutBytes bc s p fell pk _ hs hat (by omega) ((HC.out.alloc _).drewN _)).mono ?_
      rintro e w2 ⟨rfl, hc2, hg2⟩
      have HC2 := Lib.hid hc2
      have HG2 := Lib.hid hg2
      have HM2 := Lib.hid (((HM.out.alloc _).drewN _).grown hg2 (by simp; omega))
      have qm := HM2.out.cell 6
      have zm := HM2.out.frozen 6
      rw [show m.cells[6]? = some (.string m.bytes) from rfl] at qm
      clear hc2 hg2
      go_wp2_with fail
      go_end0
      refine ⟨rfl, HC2.out.setOther (by simpa using hne) _, HM2.out.setCell 6 _, ?_⟩
      exact ((((Touch.refl w _).alloc _).drewN d).trans ((Touch.of_grown HG2.out).mono (fun i _ hi => by simp at hi; exact .inl hi.symm))).setCell _ (fun _ => .inr rfl) _

/-- What an option is behind so many of its parts. -/
def readPart (s : ByteArray) (r : MultiV × Nat × Int) : PartV → MultiV × Nat × Int
  | .num f size => (r.1.set f (ofB (bytesS s r.2.1 r.2.2 size) : Nat), bytesP s r.2.1 r.2.2 size, bytesF s r.2.1 r.2.2 size)
  | .bytes l => ({ r.1 with bytes := bytesS s r.2.1 r.2.2 (mpPick l (s.size - r.2.1) : Nat) }, bytesP s r.2.1 r.2.2 (mpPick l (s.size - r.2.1) : Nat), bytesF s r.2.1 r.2.2 (mpPick l (s.size - r.2.1) : Nat))
def readTo (s : ByteArray) (l : List PartV) (r : MultiV × Nat × Int) (k : Nat) : MultiV × Nat × Int := (l.take k).foldl (readPart s) r
theorem readTo_succ (s : ByteArray) (l : List PartV) (r : MultiV × Nat × Int) (k : Nat) (h : k < l.length) : readTo s l r (k + 1) = readPart s (readTo s l r k) l[k] := by
  unfold readTo
  rw [List.take_succ_eq_append_getElem h, List.foldl_append]
  rfl
theorem readTo_at (s : ByteArray) (l : List PartV) (r : MultiV × Nat × Int) (k : Nat) (h : r.2.1 ≤ s.size) : (readTo s l r k).2.1 ≤ s.size := by
  unfold readTo
  generalize l.take k = t
  induction t generalizing r with
  | nil => exact h
  | cons a t ih =>
    rw [List.foldl_cons]
    refine ih _ ?_
    cases a with
    | num f size => exact bytesP_le h
    | bytes l => exact bytesP_le h
theorem pick32 (n : Nat) : mpPick [32] n = 32 := by simp [mpPick, mpPickTo]
theorem pick816 (n : Nat) : mpPick [8, 16] n = if 16 ≤ n then 16 else 8 := by
  unfold mpPick mpPickTo
  simp only [List.length_cons, List.length_nil, List.take_succ_cons, List.take_zero, List.foldl_cons, List.foldl_nil, List.getD_cons_zero]
  by_cases h : 8 ≤ n <;> by_cases h1 : 16 ≤ n <;> simp [h, h1]
/-- The reference's way and the program's come to one. -/
theorem getMv_parts (s : ByteArray) (k : Nat) (h : mpKnown k = true) (h1 : 1 ≤ s.size) (r : MultiV × Nat × Int) (hr : r = readTo s (mpParts k) ({ zeroM with kind := k }, 1, 0) (mpParts k).length) :
    getMv s k = if cutDoneE s r.2.1 r.2.2 = 0 then (0, r.1) else (cutDoneE s r.2.1 r.2.2, zeroM) := by
  subst hr
  rcases known_cases h with rfl | rfl | rfl | rfl | rfl | rfl | rfl | rfl | rfl | rfl | rfl
  · simp [getMv, mpSizes, mpNums, mpMany, readTo, mpParts, readPart, MultiV.set, pick32, zeroM]
  · simp [getMv, mpSizes, mpNums, mpMany, readTo, mpParts, readPart, MultiV.set, pick32, zeroM]
  · have e : mpMany s [0, 0, 0, 0, 0, 8, 16] 1 = mpPick [8, 16] (s.size - 1) := by
      rw [pick816]; simp [mpMany]
      by_cases hh : 16 ≤ s.size - 1
      · rw [if_pos hh, if_pos (by omega)]
      · rw [if_neg hh, if_neg (by omega)]
    simp [getMv, mpSizes, mpNums, readTo, mpParts, readPart, e, zeroM]
  · simp [getMv, mpSizes, mpNums, mpMany, readTo, mpParts, readPart, MultiV.set, pick32, zeroM]
  · simp [getMv, mpSizes, mpNums, mpMany, readTo, mpParts, readPart, MultiV.set, pick32, zeroM]
  · simp [getMv, mpSizes, mpNums, mpMany, readTo, mpParts, readPart, MultiV.set, pick32, zeroM]
  · simp [getMv, mpSizes, mpNums, mpMany, readTo, mpParts, readPart, MultiV.set, pick32, zeroM]
  · simp [getMv, mpSizes, mpNums, mpMany, readTo, mpParts, readPart, MultiV.set, pick32, zeroM]
  · simp [getMv, mpSizes, mpNums, mpMany, readTo, mpParts, readPart, MultiV.set, pick32, zeroM]
  · simp [getMv, mpSizes, mpNums, mpMany, readTo, mpParts, readPart, MultiV.set, pick32, zeroM]
  · simp [getMv, mpSizes, mpNums, mpMany, readTo, mpParts, readPart, MultiV.set, pick32, zeroM]

/-- A byte read by the reader. -/
theorem num1 (s : ByteArray) (h : 0 < s.size) : bytesS s 0 0 (1 : Nat) = s.extract 0 1 ∧ ofB (s.extract 0 1) = byte0 s ∧ bytesP s 0 0 (1 : Nat) = 1 ∧ bytesF s 0 0 (1 : Nat) = 0 := by
  obtain ⟨h1, h2, h3⟩ := bytes_fits (s := s) (p := 0) (n := 1) (by omega)
  refine ⟨h3, ?_, h2, h1⟩
  have e : (s.extract 0 1).data.toList = [s[0]] := by
    rw [ext_toList, List.drop_zero, List.take_succ_eq_append_getElem (by simpa using h)]
    rfl
  rw [byte0_at s h, ofB, e]
  simp [ofL]

set_option maxRecDepth 100000 in
set_option maxHeartbeats 4000000 in
theorem mpGet (o : OptV) (w : World) (hs : o.value.size ≤ 1099511627776) :
    Calls Tryz.prog 71 #[.agg o.cells] w fun e w' => e = .returned (.tuple #[.agg (getM o).2.cells, .int .i64 (getM o).1]) ∧ Below w.heap.size w w' := by
  obtain ⟨kind, s⟩ := o
  have hs' : s.size ≤ 1099511627776 := hs
  by_cases hk : kind = 46
  · subst hk
    by_cases h0 : s.size = 0
    · obtain rfl : s = ⟨#[]⟩ := by
        apply bytes_ext
        have : s.data.toList.length = 0 := h0
        exact List.length_eq_zero_iff.1 this
      have HG : Hid (getM ⟨46, ⟨#[]⟩⟩ = (1, zeroM)) := rfl
      rw [HG.out]
      clear HG h0
      show Calls _ _ #[.agg #[.int .i64 46, .string ⟨#[]⟩]] _ _
      go_enter Tryz.func71, Tryz.ntmps71
      go_wp2_with fail
      exact bodyPost_ret (v := .tuple #[.agg zeroM.cells, .int .i64 1]) (by simp [results, Tryz.results71, go_sem]; rfl) rfl ⟨rfl, (((Below.refl _ _).alloc (Nat.le_refl _) _).alloc (by simp) _).alloc (by simp; omega) _⟩
    · have h0' : 0 < s.size := by omega
      have e1 : s.toList.isEmpty = false := by
        rw [ByteArray.toList_eq]
        have : s.data.toList.length = s.size := rfl
        cases h : s.data.toList <;> simp_all
      obtain ⟨n1, n2, n3, n4⟩ := num1 s h0'
      by_cases hkn : mpKnown (byte0 s) = true
      · have HG : Hid (getM ⟨46, s⟩ = getMv s (byte0 s)) := Lib.hid (by simp [getM, h0, hkn])
        rw [HG.out]
        clear HG
        have HKN := Lib.hid hkn
        have N := Lib.hid (And.intro n1 (And.intro n2 (And.intro n3 n4)))
        clear h0 hkn n1 n2 n3 n4
        show Calls _ _ #[.agg #[.int .i64 46, .string s]] _ _
        go_enter Tryz.func71, Tryz.ntmps71
        go_wp2_with fail
        refine (octNew s _).mono ?_
        rintro e w1 ⟨rfl, rfl⟩
        go_wp2_with fail
        obtain ⟨w1, hw1⟩ : ∃ w1, w1 = (((w.alloc (.cells #[.int .i64 46, .string s] 70)).alloc (.cells zeroM.cells 65)).alloc (.cells zeroM.cells 65)).alloc (.cells #[.string s, .int .i64 0, .int .i64 0] 224) := ⟨_, rfl⟩
        have HZ1 : Hid (w1.heap.size = w.heap.size + 1 + 1 + 1 + 1) := Lib.hid (by rw [hw1]; simp)
        have K1 : Hid (Blk w1 (w.heap.size + 1) zeroM.cells 65) := Lib.hid (by rw [hw1]; exact ((Blk.new2 w _ _ _).alloc _).alloc _)
        have K2 : Hid (Blk w1 (w.heap.size + 1 + 1) zeroM.cells 65) := Lib.hid (by rw [hw1]; exact (Blk.at _ _ _ _ (by simp)).alloc _)
        have K3 : Hid (CutAt 224 w1 (w.heap.size + 1 + 1 + 1) s 0 0) := Lib.hid (by rw [hw1]; exact Blk.at _ _ _ _ (by simp))
        have HB1 : Hid (Below w.heap.size w w1) := Lib.hid (by rw [hw1]; exact ((((Below.refl _ _).alloc (Nat.le_refl _) _).alloc (by simp) _).alloc (by simp; omega) _).alloc (by simp; omega) _)
        change Calls _ _ _ ((((w.alloc (.cells #[.int .i64 46, .string s] 70)).alloc (.cells zeroM.cells 65)).alloc (.cells zeroM.cells 65)).alloc (.cells #[.string s, .int .i64 0, .int .i64 0] 224)) _
        rw [← hw1]
        clear hw1
        refine (cutNum (w.heap.size + 1 + 1 + 1) s 0 0 1 _ hs' (by omega) (by omega) (by omega) K3.out).mono ?_
        rintro e w2 ⟨rfl, hc2, hg2⟩
        rw [N.out.2.2.1, N.out.2.2.2] at hc2
        rw [N.out.1, N.out.2.1]
        have HS2 : Hid (w.heap.size + 1 + 1 + 1 + 1 ≤ w2.heap.size) := Lib.hid (by have := hg2.size; have := HZ1.out; omega)
        have K12 := Lib.hid (K1.out.grown hg2 (by simp))
        have K22 := Lib.hid (K2.out.grown hg2 (by simp))
        have HB2 : Hid (Below w.heap.size w w2) := Lib.hid (HB1.out.trans (below_grown hg2 (by omega) HB1.out.size))
        have HC2 := Lib.hid hc2
        clear hc2 hg2 K1 K2 K3 HB1 HZ1
        have hkb := byte0_lt s
        generalize hkk : byte0 s = k at *
        have HKK := Lib.hid hkk
        clear hkk
        go_wp2_with fail
        have BM : Hid (Blk (w2.alloc (.cells ({ zeroM with kind := k } : MultiV).cells 65)) w2.heap.size ({ zeroM with kind := k } : MultiV).cells 65) := Lib.hid (Blk.new _ _ _)
        refine (mpOf k _ HKN.out).mono ?_
        rintro e w3 ⟨b, rfl, hp, hb⟩
        have hsz3 : w2.heap.size + 1 ≤ w3.heap.size := by have := hb.size; simpa using this
        have B3 := Lib.hid (BM.out.below hb (by simp))
        have C3 := Lib.hid (Blk.below (Blk.alloc HC2.out _) hb (by have := HS2.out; simp; omega))
        have K13 := Lib.hid ((K12.out.alloc _).below hb (by have := HS2.out; simp; omega))
        have K23 := Lib.hid ((K22.out.alloc _).below hb (by have := HS2.out; simp; omega))
        have HP := Lib.hid hp
        have HB3 : Hid (Below w.heap.size w w3) := Lib.hid ((HB2.out.alloc HB2.out.size _).trans (hb.mono (by have := HS2.out; simp; omega)))
        have hpn : (mpParts k).length ≤ 3 := by unfold mpParts; split <;> decide
        have HSP := Lib.hid (getMv_parts s k HKN.out (by omega) _ rfl)
        have hr0 : readTo s (mpParts k) ({ zeroM with kind := k }, 1, 0) 0 = ({ zeroM with kind := k }, 1, 0) := rfl
        have HR0 := Lib.hid hr0
        have hsuc := readTo_succ s (mpParts k) ({ zeroM with kind := k }, 1, 0)
        have hats := fun i => readTo_at s (mpParts k) ({ zeroM with kind := k }, 1, 0) i (show 1 ≤ s.size by omega)
        have HSUC := Lib.hid hsuc
        have HATS := Lib.hid hats
        clear hsuc hats hr0 hp hb BM K12 K22 HC2 HB2
        generalize mpParts k = l at *
        generalize readTo s l ({ zeroM with kind := k }, 1, 0) = rd at *
        have HP' : Hid (PartsIn (w2.heap.size + 1) w3 b l) := Lib.hid (by have h := HP.out; rw [show (w2.alloc _).heap.size = w2.heap.size + 1 by simp] at h; exact h)
        clear HP
        go_wp2_with fail
        go_loopw [39] (fun c wr => ∃ i : Nat, i ≤ l.length ∧ c = .int .i64 i ∧ CutAt 224 wr (w.heap.size + 1 + 1 + 1) s (rd i).2.1 (rd i).2.2 ∧ Blk wr w2.heap.size (rd i).1.cells 65 ∧ PartsIn (w2.heap.size + 1) wr b l ∧ Blk wr (w.heap.size + 1) zeroM.cells 65 ∧ Blk wr (w.heap.size + 1 + 1) zeroM.cells 65 ∧ Below w.heap.size w wr) (fun c _ => l.length - (intOf c).toNat)
        case atStart => exact ⟨0, by omega, rfl, by rw [HR0.out]; exact C3.out, by rw [HR0.out]; exact B3.out, HP'.out, K13.out, K23.out, HB3.out⟩
        case round =>
          clear B3 C3 K13 K23 HP' HB3 HR0 hsz3
          obtain ⟨i, hi, rfl, kc, km, kp, k1, k2, hb⟩ := hrel
          have hat := HATS.out i
          by_cases hlt : i < l.length
          · have hlt' : (i : Int) < l.length := by omega
            have hi0 : (0 : Int) ≤ i := by omega
            have KP := Lib.hid kp
            obtain ⟨hBb, vs, hvl, hvb, hpa⟩ := kp
            have qv := hvb.cell i
            rw [List.getElem?_toArray, List.getElem?_eq_getElem (by omega)] at qv
            have hpi := hpa i hlt (by omega)
            have HSX := Lib.hid (HSUC.out i hlt)
            generalize vs[i]'(by omega) = v at *
            generalize hpl : l[i] = pt at *
            have HPL := Lib.hid hpl
            have HVB := hvb.lt
            have KC := Lib.hid kc
            have KM := Lib.hid km
            have K1 := Lib.hid k1
            have K2 := Lib.hid k2
            have HB := Lib.hid hb
            clear hpl kc km k1 k2 hb hvb hpa hvl
            cases pt with
            | num f size =>
              obtain ⟨rfl, hf⟩ := hpi
              have HF := Lib.hid hf
              clear hf
              have hmeth := meth_num_read (.agg #[.func (.func (fieldFn f)) #[] #[], .int .i64 size])
              go_wp2_with fail
              refine (mpNumRead f size (w.heap.size + 1 + 1 + 1) w2.heap.size s _ _ _ _ HF.out hs' hat (by have := HS2.out; omega) KC.out KM.out).mono ?_
              rintro e w5 ⟨rfl, hc5, hm5, ht5⟩
              have C5 := Lib.hid hc5
              have M5 := Lib.hid hm5
              have T5 := Lib.hid ht5
              clear hc5 hm5 ht5
              go_wp2_with fail
              go_roundw
              case rel =>
                have h2 := HS2.out
                refine ⟨i + 1, by omega, by go_num, by rw [HSX.out]; exact C5.out, by rw [HSX.out]; exact M5.out, KP.out.touch T5.out (by omega), K1.out.touch T5.out (by omega), K2.out.touch T5.out (by omega), HB.out.trans (T5.out.below HB.out.size (by omega))⟩
              case measure => simp [intOf]; omega
            | bytes bl =>
              obtain ⟨g, hBg, rfl, hgb, h0l, h32⟩ := hpi
              have HGB := Lib.hid hgb
              have H32 := Lib.hid h32
              have hmeth := meth_bytes_read (.agg #[.slice (some ⟨g, 0, none⟩) bl.length bl.length])
              clear hgb h32
              go_wp2_with fail
              refine (mpBytesRead bl g (w.heap.size + 1 + 1 + 1) w2.heap.size s _ _ _ _ HGB.out h0l.1 H32.out h0l.2 hs' hat (by have := HS2.out; omega) KC.out KM.out).mono ?_
              rintro e w5 ⟨rfl, hc5, hm5, ht5⟩
              have C5 := Lib.hid hc5
              have M5 := Lib.hid hm5
              have T5 := Lib.hid ht5
              clear hc5 hm5 ht5
              go_wp2_with fail
              go_roundw
              case rel =>
                have h2 := HS2.out
                refine ⟨i + 1, by omega, by go_num, by rw [HSX.out]; exact C5.out, by rw [HSX.out]; exact M5.out, KP.out.touch T5.out (by omega), K1.out.touch T5.out (by omega), K2.out.touch T5.out (by omega), HB.out.trans (T5.out.below HB.out.size (by omega))⟩
              case measure => simp [intOf]; omega
          · obtain rfl : i = l.length := by omega
            have KC := Lib.hid kc
            have KM := Lib.hid km
            have K1 := Lib.hid k1
            have HB := Lib.hid hb
            have K2' := Lib.hid k2
            have hlk1 := k1.lt
            have hlkm := km.lt
            clear kc km kp k1 k2 hb HSUC HATS
            generalize rd l.length = r at *
            obtain ⟨m, p, f⟩ := r
            dsimp only at HSP KC KM hat
            have HZ0 : Hid (cutDoneE s p f = if f = 0 ∧ p < s.size then 2 else f) := rfl
            go_wp2_with fail
            refine (cutDone (w.heap.size + 1 + 1 + 1) s p f _ hs' hat KC.out).mono ?_
            rintro e w6 ⟨rfl, n6, rfl⟩
            rw [← HZ0.out]
            by_cases hE : cutDoneE s p f = 0
            · have HG : Hid (getMv s k = (0, m)) := Lib.hid (by rw [HSP.out, if_pos hE])
              rw [hE]
              clear hE HSP HZ0
              go_wp2_with (first | (refine wpList_load_blk rfl 65 _ rfl w2.heap.size rfl 65 _ _ (KM.out.drewN _) Tryz.underlying65 rfl (by kernel_rfl) ?_) | (refine wpList_store_blk rfl 65 _ _ rfl (w.heap.size + 1) m.cells rfl rfl 65 _ (K1.out.drewN _) rfl (by kernel_rfl) (oneM m) ?_; intro w9 hk9 hg9))
              refine bodyPost_ret (v := .tuple #[.agg m.cells, .int .i64 0]) ?_ rfl ?_
              · exact results_cell_tmp rfl _ _ (w.heap.size + 1) 65 _ _ _ _ rfl rfl hk9 Tryz.underlying65 rfl (by kernel_rfl)
              · exact ⟨by rw [HKK.out, HG.out], (below_drewN HB.out n6).trans (below_grown hg9 (by omega) (by have := HB.out.size; simp; omega))⟩
            · have HG : Hid (getMv s k = (cutDoneE s p f, zeroM)) := Lib.hid (by rw [HSP.out, if_neg hE])
              generalize cutDoneE s p f = E at *
              have hE1 : (E != 0) = true := by rw [bne_iff_ne]; exact hE
              clear HSP HZ0 hE
              go_wp2_with (first | (refine wpList_load_blk rfl 65 _ rfl (w.heap.size + 1 + 1) rfl 65 _ _ (K2'.out.drewN _) Tryz.underlying65 rfl (by kernel_rfl) ?_) | (refine wpList_store_blk rfl 65 _ _ rfl (w.heap.size + 1) zeroM.cells rfl rfl 65 _ (K1.out.drewN _) rfl (by kernel_rfl) (oneM zeroM) ?_; intro w9 hk9 hg9))
              refine bodyPost_ret (v := .tuple #[.agg zeroM.cells, .int .i64 E]) ?_ rfl ?_
              · exact results_cell_tmp rfl _ _ (w.heap.size + 1) 65 _ _ _ _ rfl rfl hk9 Tryz.underlying65 rfl (by kernel_rfl)
              · exact ⟨by rw [HKK.out, HG.out], (below_drewN HB.out n6).trans (below_grown hg9 (by omega) (by have := HB.out.size; simp; omega))⟩
      · have HG : Hid (getM ⟨46, s⟩ = (7, zeroM)) := Lib.hid (by simp [getM, h0, hkn])
        have hkf : mpKnown (byte0 s) = false := by simpa using hkn
        rw [HG.out]
        clear HG
        have HKN := Lib.hid hkf
        have N := Lib.hid (And.intro n1 (And.intro n2 (And.intro n3 n4)))
        clear h0 hkn hkf n1 n2 n3 n4
        show Calls _ _ #[.agg #[.int .i64 46, .string s]] _ _
        go_enter Tryz.func71, Tryz.ntmps71
        go_wp2_with fail
        refine (octNew s _).mono ?_
        rintro e w1 ⟨rfl, rfl⟩
        go_wp2_with fail
        obtain ⟨w1, hw1⟩ : ∃ w1, w1 = (((w.alloc (.cells #[.int .i64 46, .string s] 70)).alloc (.cells zeroM.cells 65)).alloc (.cells zeroM.cells 65)).alloc (.cells #[.string s, .int .i64 0, .int .i64 0] 224) := ⟨_, rfl⟩
        have HZ1 : Hid (w1.heap.size = w.heap.size + 1 + 1 + 1 + 1) := Lib.hid (by rw [hw1]; simp)
        have K1 : Hid (Blk w1 (w.heap.size + 1) zeroM.cells 65) := Lib.hid (by rw [hw1]; exact ((Blk.new2 w _ _ _).alloc _).alloc _)
        have K2 : Hid (Blk w1 (w.heap.size + 1 + 1) zeroM.cells 65) := Lib.hid (by rw [hw1]; exact (Blk.at _ _ _ _ (by simp)).alloc _)
        have K3 : Hid (CutAt 224 w1 (w.heap.size + 1 + 1 + 1) s 0 0) := Lib.hid (by rw [hw1]; exact Blk.at _ _ _ _ (by simp))
        have HB1 : Hid (Below w.heap.size w w1) := Lib.hid (by rw [hw1]; exact ((((Below.refl _ _).alloc (Nat.le_refl _) _).alloc (by simp) _).alloc (by simp; omega) _).alloc (by simp; omega) _)
        change Calls _ _ _ ((((w.alloc (.cells #[.int .i64 46, .string s] 70)).alloc (.cells zeroM.cells 65)).alloc (.cells zeroM.cells 65)).alloc (.cells #[.string s, .int .i64 0, .int .i64 0] 224)) _
        rw [← hw1]
        clear hw1
        refine (cutNum (w.heap.size + 1 + 1 + 1) s 0 0 1 _ hs' (by omega) (by omega) (by omega) K3.out).mono ?_
        rintro e w2 ⟨rfl, hc2, hg2⟩
        rw [N.out.1, N.out.2.1]
        have hs2 : w.heap.size + 1 + 1 + 1 + 1 ≤ w2.heap.size := by have := hg2.size; have := HZ1.out; omega
        have K12 := Lib.hid ((K1.out.grown hg2 (by simp)).alloc (.cells ({ zeroM with kind := byte0 s } : MultiV).cells 65))
        have K22 := Lib.hid ((K2.out.grown hg2 (by simp)).alloc (.cells ({ zeroM with kind := byte0 s } : MultiV).cells 65))
        have HB2 : Hid (Below w.heap.size w (w2.alloc (.cells ({ zeroM with kind := byte0 s } : MultiV).cells 65))) := Lib.hid ((HB1.out.trans (below_grown hg2 (by omega) HB1.out.size)).alloc (by omega) _)
        clear hc2 hg2 K1 K2 K3 HB1 HZ1
        go_wp2_with fail
        refine (mpOf_no (byte0 s) _ HKN.out).mono ?_
        rintro e w3 ⟨rfl, rfl⟩
        go_wp2_with (first | (refine wpList_load_blk rfl 65 _ rfl (w.heap.size + 1 + 1) rfl 65 _ _ K22.out Tryz.underlying65 rfl (by kernel_rfl) ?_) | (refine wpList_store_blk rfl 65 _ _ rfl (w.heap.size + 1) zeroM.cells rfl rfl 65 _ K12.out rfl (by kernel_rfl) (oneM zeroM) ?_; intro w9 hk9 hg9))
        refine bodyPost_ret (v := .tuple #[.agg zeroM.cells, .int .i64 7]) ?_ rfl ?_
        · exact results_cell_tmp rfl _ _ (w.heap.size + 1) 65 _ _ _ _ rfl rfl hk9 Tryz.underlying65 rfl (by kernel_rfl)
        · exact ⟨rfl, HB2.out.trans (below_grown hg9 (by omega) HB2.out.size)⟩
  · have HG : Hid (getM ⟨kind, s⟩ = (7, zeroM)) := Lib.hid (by simp [getM, hk])
    rw [HG.out]
    clear HG
    have hk1 : (kind != 46) = true := by rw [bne_iff_ne]; exact hk
    show Calls _ _ #[.agg #[.int .i64 kind, .string s]] _ _
    go_enter Tryz.func71, Tryz.ntmps71
    go_wp2_with fail
    exact bodyPost_ret (v := .tuple #[.agg zeroM.cells, .int .i64 7]) (by simp [results, Tryz.results71, go_sem]; rfl) rfl ⟨rfl, (((Below.refl _ _).alloc (Nat.le_refl _) _).alloc (by simp) _).alloc (by simp; omega) _⟩
end Go.Proofs.YtjboillkhhefaaaGreatDoor
