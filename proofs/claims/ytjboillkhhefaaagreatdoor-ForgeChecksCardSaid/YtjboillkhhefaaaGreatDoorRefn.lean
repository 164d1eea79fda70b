/- The reference's options of several paths (layer 11): Known, Sizes. -/
import Derived.Test.YtjboillkhhefaaaGreatDoorRefb
import Derived.Test.YtjboillkhhefaaaGreatDoorMpSpec
set_option linter.unusedVariables false
namespace Go.Proofs.YtjboillkhhefaaaGreatDoor
open Go.RowKit

/-- Integers as cells. -/
def ints (l : List Int) : Array Value := (l.map (Value.int .i64)).toArray
theorem ints_size (l : List Int) : (ints l).size = l.length := by simp [ints]
theorem ints_get (l : List Int) (i : Nat) (h : i < l.length) : (ints l)[i]? = some (.int .i64 (l.getD i 0)) := by simp [ints, h, List.getD]
theorem ints_one (l : List Int) : ∀ v ∈ (ints l).toList, v.oneCell' = true := by intro v hv; simp [ints] at hv; obtain ⟨x, _, rfl⟩ := hv; rfl
theorem ints_set (l : List Int) (i : Nat) (n : Int) : (ints l).setIfInBounds i (.int .i64 n) = ints (l.set i n) := by
  apply Array.ext'; simp [ints, List.map_set]
def nats (l : List Nat) : List Int := l.map fun (n : Nat) => (n : Int)
theorem nats_getD (l : List Nat) (i : Nat) : (nats l).getD i 0 = (l.getD i 0 : Nat) := by
  simp only [nats, List.getD, List.getElem?_map]
  cases l[i]? <;> simp

set_option maxRecDepth 100000 in
set_option maxHeartbeats 400000 in
theorem refKnown (k : Nat) (w : World) :
    Calls Tryz.prog 120 #[.int .i64 k] w fun e w' => e = .returned (.bool (mpKnown k)) ∧ w = w' := by
  have e0 : decide ((0 : Int) ≤ k) = true := by simp
  by_cases h : k ≤ 11
  · have h1 : decide ((k : Int) ≤ 11) = true := by simp; omega
    by_cases h2 : k = 2
    · have h3 : ((k : Int) != 2) = false := by rw [bne_eq_false_iff_eq]; omega
      have hf : Hid (mpKnown k = false) := Lib.hid (by simp [mpKnown, h2])
      clear h2
      go_enter Tryz.func120, Tryz.ntmps120
      go_wp2_with fail
      go_ret
      exact ⟨ret_bool hf.out.symm, rfl⟩
    · have h3 : ((k : Int) != 2) = true := by rw [bne_iff_ne]; omega
      have hf : Hid (mpKnown k = true) := Lib.hid (by simp [mpKnown, h2, h])
      clear h2
      go_enter Tryz.func120, Tryz.ntmps120
      go_wp2_with fail
      go_ret
      exact ⟨ret_bool hf.out.symm, rfl⟩
  · have h1 : decide ((k : Int) ≤ 11) = false := by simp; omega
    have hf : Hid (mpKnown k = false) := Lib.hid (by simp [mpKnown]; omega)
    go_enter Tryz.func120, Tryz.ntmps120
    go_wp2_with fail
    go_ret
    exact ⟨ret_bool hf.out.symm, rfl⟩

theorem known_cases {k : Nat} (h : mpKnown k = true) : k = 0 ∨ k = 1 ∨ k = 3 ∨ k = 4 ∨ k = 5 ∨ k = 6 ∨ k = 7 ∨ k = 8 ∨ k = 9 ∨ k = 10 ∨ k = 11 := by
  simp [mpKnown] at h; omega
set_option maxRecDepth 100000 in
set_option maxHeartbeats 4000000 in
theorem refSizes (k : Nat) (w : World) (hk : mpKnown k = true) :
    Calls Tryz.prog 121 #[.int .i64 k] w fun e w' => e = .returned (.agg (ints (nats (mpSizes k)))) ∧ Below w.heap.size w w' := by
  rcases known_cases hk with rfl | rfl | rfl | rfl | rfl | rfl | rfl | rfl | rfl | rfl | rfl
  all_goals
    clear hk
    go_enter Tryz.func121, Tryz.ntmps121
    go_wp2_with fail
    exact bodyPost_ret (v := .agg (ints (nats (mpSizes _)))) (by simp [results, Tryz.results121, go_sem]; rfl) rfl ⟨rfl, by first | exact ((Below.refl _ _).alloc (Nat.le_refl _) _)⟩
theorem nats_length (l : List Nat) : (nats l).length = l.length := by simp [nats]
theorem results_cell_tmp {P : Program} {fn : Func} {p q : Tmp} {ty : TypeId} (h : fn.results = #[.cell p ty, .tmp q]) (tmps : Array Value) (w : World) (g : Nat) (t : TypeId) (cs : Array Value) (fr : Nat × Nat) (d : TypeDesc) (v : Value)
    (hp : tmps.getD p undef = .pointer (some ⟨g, 0, none⟩)) (hq : tmps.getD q undef = v) (hg : w.heap[g]? = some (.cells cs t fr))
    (hu : P.underlying ty = some d) (hd : (match d with | .struct _ | .array _ _ => true | _ => false) = true) (hi : (P.info? ty).map (·.size) = some cs.size) :
    (results fn tmps).run P w = .ok (.tuple #[.agg cs, v]) w := by
  have hp' : tmps[p]?.getD undef = .pointer (some ⟨g, 0, none⟩) := by simpa using hp
  have hq' : tmps[q]?.getD undef = v := by simpa using hq
  simp [results, h, hp', hq', asAddr, run_loadVar_row w g t ty cs fr d hg hu hd hi]
theorem list5 {l : List Int} (h : l.length = 5) : ∃ a b c d e, l = [a, b, c, d, e] := by
  match l, h with
  | [a, b, c, d, e], _ => exact ⟨a, b, c, d, e, rfl⟩
theorem getMv_eq (s : ByteArray) (k : Nat) (z : List Nat) (hz : mpSizes k = z) :
    getMv s k = if cutDoneE s (if z.getD 6 0 = 0 then (mpNums s z 5).2.1 else bytesP s (mpNums s z 5).2.1 (mpNums s z 5).2.2 (mpMany s z (mpNums s z 5).2.1)) (if z.getD 6 0 = 0 then (mpNums s z 5).2.2 else bytesF s (mpNums s z 5).2.1 (mpNums s z 5).2.2 (mpMany s z (mpNums s z 5).2.1)) = 0
      then (0, ⟨k, (mpNums s z 5).1.getD 0 0, (mpNums s z 5).1.getD 1 0, (mpNums s z 5).1.getD 4 0, (mpNums s z 5).1.getD 2 0, (mpNums s z 5).1.getD 3 0, if z.getD 6 0 = 0 then ⟨#[]⟩ else bytesS s (mpNums s z 5).2.1 (mpNums s z 5).2.2 (mpMany s z (mpNums s z 5).2.1)⟩)
      else (cutDoneE s (if z.getD 6 0 = 0 then (mpNums s z 5).2.1 else bytesP s (mpNums s z 5).2.1 (mpNums s z 5).2.2 (mpMany s z (mpNums s z 5).2.1)) (if z.getD 6 0 = 0 then (mpNums s z 5).2.2 else bytesF s (mpNums s z 5).2.1 (mpNums s z 5).2.2 (mpMany s z (mpNums s z 5).2.1)), zeroM) := by
  subst hz; rfl
theorem oneM (m : MultiV) : ∀ v ∈ m.cells.toList, v.oneCell' = true := by
  intro v hv
  simp [MultiV.cells] at hv
  rcases hv with rfl | rfl | rfl | rfl | rfl | rfl | rfl <;> rfl
/-- What an option's bytes are, as an argument. -/
theorem byte0_at (s : ByteArray) (h : 0 < s.size) : byte0 s = (s[0]).toNat := by
  unfold byte0
  rw [List.getD_eq_getElem?_getD, List.getElem?_eq_getElem (by simpa using h)]
  rfl
theorem wrap64_u8 (b : UInt8) : wrap64 (b.toNat : Int) = (b.toNat : Int) := by
  have := b.toNat_lt
  unfold wrap64; omega
theorem byte0_lt (s : ByteArray) : byte0 s < 256 := UInt8.toNat_lt _

set_option maxRecDepth 100000 in
set_option maxHeartbeats 4000000 in
theorem refMGet (o : OptV) (w : World) (hs : o.value.size ≤ 1099511627776) :
    Calls Tryz.prog 68 #[.agg o.cells] w fun e w' => e = .returned (.tuple #[.agg (getM o).2.cells, .int .i64 (getM o).1]) ∧ Below w.heap.size w w' := by
  obtain ⟨kind, s⟩ := o
  have hs' : s.size ≤ 1099511627776 := hs
  by_cases hk : kind = 46
  · subst hk
    by_cases h0 : s.size = 0
    · obtain rfl : s = ⟨#[]⟩ := by
        apply bytes_ext
        have : s.data.toList.length = 0 := h0
        exact List.length_eq_zero_iff.1 this
      have HG : Hid (getM ⟨46, ⟨#[]⟩⟩ = (1, zeroM)) := rfl
      rw [HG.out]
      clear HG h0
      show Calls _ _ #[.agg #[.int .i64 46, .string ⟨#[]⟩]] _ _
      go_enter Tryz.func68, Tryz.ntmps68
      go_wp2_with fail
      exact bodyPost_ret (v := .tuple #[.agg zeroM.cells, .int .i64 1]) (by simp [results, Tryz.results68, go_sem]; rfl) rfl ⟨rfl, ((Below.refl _ _).alloc (Nat.le_refl _) _).alloc (by simp) _⟩
    · have h0' : 0 < s.size := by omega
      have e1 : s.toList.isEmpty = false := by
        rw [ByteArray.toList_eq]
        have : s.data.toList.length = s.size := rfl
        cases h : s.data.toList <;> simp_all
      have hb0 := Lib.hid (byte0_at s h0')
      by_cases hkn : mpKnown (byte0 s) = true
      · have HG : Hid (getM ⟨46, s⟩ = getMv s (byte0 s)) := Lib.hid (by simp [getM, h0, hkn])
        rw [HG.out]
        clear HG
        have HKN := Lib.hid hkn
        clear h0 hkn
        show Calls _ _ #[.agg #[.int .i64 46, .string s]] _ _
        go_enter Tryz.func68, Tryz.ntmps68
        go_wp2_with fail
        rw [wrap64_u8, ← hb0.out]
        have hkb := byte0_lt s
        generalize hkk : byte0 s = k at *
        have HKK := Lib.hid hkk
        clear hkk
        refine (refKnown k _).mono ?_
        rintro e w1 ⟨rfl, rfl⟩
        rw [HKN.out]
        go_wp2_with fail
        refine (refSizes k _ HKN.out).mono ?_
        rintro e w2 ⟨rfl, hb2⟩
        have hz7 := mpSizes_length k
        have hzl := mpSizes_low k
        have HGV : Hid (getMv s k = getMv s k) := rfl
        generalize hz : mpSizes k = z at *
        have HZ := Lib.hid hz
        have HZ7 := Lib.hid hz7
        have HZL := Lib.hid hzl
        have KB0 : Hid (Blk w2 w.heap.size #[.int .i64 46, .string s] 70) := Lib.hid (((Blk.new w _ _).alloc _).below hb2 (by simp; omega))
        have KB1 : Hid (Blk w2 (w.heap.size + 1) zeroM.cells 65) := Lib.hid ((Blk.new2 w _ _ _).below hb2 (by simp))
        have hsz2 : w.heap.size + 1 + 1 ≤ w2.heap.size := by have := hb2.size; simp at this; omega
        have HB2 : Hid (Below w.heap.size w w2) := Lib.hid ((((Below.refl _ _).alloc (Nat.le_refl _) _).alloc (by simp) _).trans (hb2.mono (by simp; omega)))
        clear hz hz7 hzl hb2 hb0
        go_wp2_with (first | (refine wpList_store_blk rfl 215 _ _ rfl w2.heap.size (ints (nats z)) rfl rfl 215 _ (Blk.new _ _ _) (by rw [ints_size, nats_length, HZ7.out]; rfl) (by rw [ints_size, nats_length, HZ7.out]; kernel_rfl) (ints_one _) ?_; intro w3 hk3 hg3; have q0 := ((Blk.alloc KB0.out _).grown hg3 (by simp; omega)).cell 1; simp at q0; have hz3 := hg3.size; simp at hz3; have K3 := Lib.hid hk3; have G3 := Lib.hid hg3; clear hk3 hg3))
        clear q0
        have B3 : Hid (Below w.heap.size w ((w3.alloc (.cells #[.string s, .int .i64 1, .int .i64 0] 163)).alloc (.cells #[.int .i64 0, .int .i64 0, .int .i64 0, .int .i64 0, .int .i64 0] 217))) :=
          Lib.hid (((HB2.out.trans ((((Below.refl w2.heap.size w2).alloc (Nat.le_refl _) _).trans ((below_grown G3.out (Nat.le_refl _) (by simp)))).mono (by omega))).alloc (by omega) _).alloc (by simp; omega) _)
        have K1 : Hid (Blk ((w3.alloc (.cells #[.string s, .int .i64 1, .int .i64 0] 163)).alloc (.cells #[.int .i64 0, .int .i64 0, .int .i64 0, .int .i64 0, .int .i64 0] 217)) (w.heap.size + 1) zeroM.cells 65) :=
          Lib.hid ((((Blk.alloc KB1.out _).grown G3.out (by simp; omega)).alloc _).alloc _)
        go_loopw [8] (fun c wr => ∃ i : Nat, i ≤ 5 ∧ c = .int .i64 i ∧ Blk wr (w3.heap.size + 1) (ints (mpNums s z i).1) 217 ∧ CutAt 163 wr w3.heap.size s (mpNums s z i).2.1 (mpNums s z i).2.2 ∧ Blk wr w2.heap.size (ints (nats z)) 215 ∧ Blk wr (w.heap.size + 1) zeroM.cells 65 ∧ Below w.heap.size w wr) (fun c _ => 5 - (intOf c).toNat)
        case atStart => exact ⟨0, by omega, rfl, Blk.new2 w3 _ _ _, (Blk.new w3 _ _).alloc _, (K3.out.alloc _).alloc _, K1.out, B3.out⟩
        case round =>
          clear B3 K1 K3 G3 KB0 KB1 HB2 HGV
          obtain ⟨i, hi, rfl, k5, kc, k7, k1, hb⟩ := hrel
          have hl5 := mpNums_length s z i
          have hat := mpNums_at s z (by omega) i
          by_cases hi5 : i < 5
          · have hi5' : (i : Int) < 5 := by omega
            have hi0 : (0 : Int) ≤ i := by omega
            have qz := k7.cell i
            rw [ints_get _ _ (by rw [nats_length, HZ7.out]; omega), nats_getD] at qz
            have hzb := HZL.out i hi5
            by_cases hz0 : z.getD i 0 = 0
            · have HN : Hid (mpNums s z (i + 1) = mpNums s z i) := Lib.hid (by rw [mpNums]; simp only [hz0, if_true])
              rw [hz0] at qz
              have K5 := Lib.hid (And.intro k5 (And.intro kc (And.intro k7 (And.intro k1 hb))))
              clear k5 kc k7 k1 hb hz0 hzb hl5 hat
              go_wp2_with fail
              go_roundw
              case rel =>
                refine ⟨i + 1, by omega, by go_num, ?_⟩
                rw [HN.out]
                exact K5.out
              case measure => simp [intOf]; omega
            · have HN : Hid (mpNums s z (i + 1) = ((mpNums s z i).1.set i (ofB (bytesS s (mpNums s z i).2.1 (mpNums s z i).2.2 (z.getD i 0)) : Nat), bytesP s (mpNums s z i).2.1 (mpNums s z i).2.2 (z.getD i 0), bytesF s (mpNums s z i).2.1 (mpNums s z i).2.2 (z.getD i 0))) := Lib.hid (by rw [mpNums]; simp only [hz0, if_false])
              generalize mpNums s z i = r at *
              obtain ⟨l, p, f⟩ := r
              dsimp only at HN k5 kc hl5 hat
              generalize hzi : z.getD i 0 = y at *
              have HZI := Lib.hid hzi
              have hy : (0 : Int) < y := by omega
              have q5 := k5.cell i
              have z5 := k5.frozen i
              rw [ints_get _ _ (by omega)] at q5
              have hl5' := Lib.hid hl5
              have h3 := kc.lt
              have K5 := Lib.hid k5
              have KC := Lib.hid kc
              have K7 := Lib.hid k7
              have K1 := Lib.hid k1
              have HB := Lib.hid hb
              clear hzi k5 kc k7 k1 hb hz0 hl5
              go_wp2_with fail
              refine (refNum w3.heap.size s p f y _ hs' hat (by omega) (by omega) KC.out).mono ?_
              rintro e w4 ⟨rfl, hc4, hg4⟩
              have q5' := (K5.out.grown hg4 (by simp)).cell i
              have z5' := (K5.out.grown hg4 (by simp)).frozen i
              rw [ints_get _ _ (by rw [hl5'.out]; omega)] at q5'
              have HC4 := Lib.hid hc4
              have HG4 := Lib.hid hg4
              clear q5 z5 hc4 hg4
              go_wp2_with fail
              go_roundw
              case rel =>
                refine ⟨i + 1, by omega, by go_num, ?_, ?_, ?_, ?_, ?_⟩
                · rw [HN.out, ← ints_set]
                  exact (K5.out.grown HG4.out (by simp)).setCell i _
                · rw [HN.out]
                  exact Blk.setOther HC4.out (by simp) _
                · exact (K7.out.grown HG4.out (by simp; omega)).setOther (by simp; omega) _
                · exact (K1.out.grown HG4.out (by simp; omega)).setOther (by simp; omega) _
                · exact (HB.out.trans (below_grown HG4.out (by omega) HB.out.size)).setCell (by simp; omega) _
              case measure => simp [intOf]; omega
          · obtain rfl : i = 5 := by omega
            have HV := Lib.hid (getMv_eq s k z HZ.out)
            generalize mpNums s z 5 = r at *
            obtain ⟨l, p, f⟩ := r
            dsimp only at HV k5 kc hl5 hat
            obtain ⟨a0, a1, a2, a3, a4, rfl⟩ := list5 hl5
            have qa0 := k5.cell 0
            have qa1 := k5.cell 1
            have qa2 := k5.cell 2
            have qa3 := k5.cell 3
            have qa4 := k5.cell 4
            simp [ints] at qa0 qa1 qa2 qa3 qa4
            have q5 := k7.cell 5
            have q6 := k7.cell 6
            rw [ints_get _ _ (by rw [nats_length, HZ7.out]; omega), nats_getD] at q5 q6
            obtain ⟨c0, c1, c2, -⟩ := CutAt.open kc
            have hlc := kc.lt
            generalize hz5 : z.getD 5 0 = z5 at *
            generalize hz6 : z.getD 6 0 = z6 at *
            have HM : Hid (mpMany s z p = if (z6 : Int) ≤ (s.size : Int) - p then z6 else z5) := Lib.hid (by unfold mpMany; rw [hz5, hz6])
            have hz56 : z5 ≤ 32 ∧ z6 ≤ 32 := by rw [← hz5, ← hz6, ← HZ.out]; exact ⟨mpSizes_le k 5, mpSizes_le k 6⟩
            have hb5 : (z5 : Int) ≤ 32 := by omega
            have hb6 : (z6 : Int) ≤ 32 := by omega
            have hat' : (p : Int) ≤ s.size := by omega
            have hlk := k1.lt
            have hl7 := k7.lt
            have PK := Lib.hid (And.intro kc (And.intro k1 (And.intro hb (And.intro k7 HZ))))
            clear kc k1 hb k7 HZ k5 hz5 hz6 hl5 hi hi5 HZ7 HZL HKN e1 hz56
            rcases Nat.eq_zero_or_pos z6 with rfl | hz0
            · have HE : Hid (getMv s k = if cutDoneE s p f = 0 then (0, ⟨k, a0, a1, a4, a2, a3, ⟨#[]⟩⟩) else (cutDoneE s p f, zeroM)) := HV
              have HZ0 : Hid (cutDoneE s p f = if f = 0 ∧ p < s.size then 2 else f) := rfl
              have K9 := Lib.hid ((Blk.new wr #[.int .i64 k, .int .i64 a0, .int .i64 a1, .int .i64 a4, .int .i64 a2, .int .i64 a3, .string ⟨#[]⟩] 65))
              clear HV HM
              by_cases hm : ((0 : Nat) : Int) ≤ (s.size : Int) - p
              · go_wp2_with fail
                go_quiet (fail)
                go_wp2_with fail
                refine (refDone w3.heap.size s p f _ hs' hat ((PK.out.1.alloc _).drewN _)).mono ?_
                rintro e w6 ⟨rfl, n6, rfl⟩
                rw [← HZ0.out]
                have HB6 := Lib.hid (below_drewN (PK.out.2.2.1.alloc PK.out.2.2.1.size (.cells #[.int .i64 k, .int .i64 a0, .int .i64 a1, .int .i64 a4, .int .i64 a2, .int .i64 a3, .string ⟨#[]⟩] 65)) (nq + n6))
                by_cases hE : cutDoneE s p f = 0
                · have HG : Hid (getMv s k = (0, ⟨k, a0, a1, a4, a2, a3, ⟨#[]⟩⟩)) := Lib.hid (by rw [HE.out, if_pos hE])
                  rw [hE]
                  clear hE HE HZ0
                  go_wp2_with (first | (refine wpList_load_blk rfl 65 _ rfl wr.heap.size rfl 65 _ _ (K9.out.drewN _) Tryz.underlying65 rfl (by kernel_rfl) ?_) | (refine wpList_store_blk rfl 65 _ _ rfl (w.heap.size + 1) #[.int .i64 k, .int .i64 a0, .int .i64 a1, .int .i64 a4, .int .i64 a2, .int .i64 a3, .string ⟨#[]⟩] rfl rfl 65 _ ((PK.out.2.1.alloc _).drewN _) rfl (by kernel_rfl) (oneM ⟨k, a0, a1, a4, a2, a3, ⟨#[]⟩⟩) ?_; intro w9 hk9 hg9))
                  refine bodyPost_ret (v := .tuple #[.agg #[.int .i64 k, .int .i64 a0, .int .i64 a1, .int .i64 a4, .int .i64 a2, .int .i64 a3, .string ⟨#[]⟩], .int .i64 0]) ?_ rfl ?_
                  · exact results_cell_tmp rfl _ _ (w.heap.size + 1) 65 _ _ _ _ rfl rfl hk9 Tryz.underlying65 rfl (by kernel_rfl)
                  · exact ⟨by rw [HKK.out, HG.out]; try rfl, HB6.out.trans (below_grown hg9 (by omega) HB6.out.size)⟩
                · have HG : Hid (getMv s k = (cutDoneE s p f, zeroM)) := Lib.hid (by rw [HE.out, if_neg hE])
                  generalize cutDoneE s p f = E at *
                  have hE1 : (E != 0) = true := by rw [bne_iff_ne]; exact hE
                  clear HE HZ0 hE
                  go_wp2_with (first | (refine wpList_store_blk rfl 65 _ _ rfl (w.heap.size + 1) zeroM.cells rfl rfl 65 _ ((PK.out.2.1.alloc _).drewN _) rfl (by kernel_rfl) (oneM zeroM) ?_; intro w9 hk9 hg9))
                  refine bodyPost_ret (v := .tuple #[.agg zeroM.cells, .int .i64 E]) ?_ rfl ?_
                  · exact results_cell_tmp rfl _ _ (w.heap.size + 1) 65 _ _ _ _ rfl rfl hk9 Tryz.underlying65 rfl (by kernel_rfl)
                  · exact ⟨by rw [HKK.out, HG.out]; try rfl, HB6.out.trans (below_grown hg9 (by omega) HB6.out.size)⟩
              · omega
            · have hz0' : ¬ z6 = 0 := by omega
              rcases (show mpMany s z p = z6 ∧ (z6 : Int) ≤ (s.size : Int) - p ∨ mpMany s z p = z5 ∧ ¬ (z6 : Int) ≤ (s.size : Int) - p by rw [HM.out]; by_cases hm : (z6 : Int) ≤ (s.size : Int) - p <;> simp [hm]) with ⟨hn, hm⟩ | ⟨hn, hm⟩
              all_goals
                have HE := HV.out
                rw [hn] at HE
                simp only [hz0', if_false] at HE
                have HE' := Lib.hid HE
                clear HE HV HM hn hz0'
                go_wp2_with fail
                go_quiet (fail)
                go_wp2_with fail
                refine (refBytes w3.heap.size s p f _ _ hs' hat (by omega) ((PK.out.1.alloc _).drewN _)).mono ?_
                rintro e w5 ⟨rfl, hc5, hg5⟩
                have HC5 := Lib.hid hc5
                have HG5 := Lib.hid hg5
                have K5 := Lib.hid (((Blk.new wr #[.int .i64 k, .int .i64 a0, .int .i64 a1, .int .i64 a4, .int .i64 a2, .int .i64 a3, .string ⟨#[]⟩] 65).drewN nq).grown hg5 (by simp; omega))
                have q9 := K5.out.cell 6
                have z9 := K5.out.frozen 6
                simp at q9
                have hb5' : Below w.heap.size w w5 := (below_drewN (PK.out.2.2.1.alloc PK.out.2.2.1.size (.cells #[.int .i64 k, .int .i64 a0, .int .i64 a1, .int .i64 a4, .int .i64 a2, .int .i64 a3, .string ⟨#[]⟩] 65)) nq).trans (below_grown hg5 (by omega) (by simp; omega))
                have k15 := (((PK.out.2.1).alloc (.cells #[.int .i64 k, .int .i64 a0, .int .i64 a1, .int .i64 a4, .int .i64 a2, .int .i64 a3, .string ⟨#[]⟩] 65)).drewN nq).grown hg5 (by simp; omega)
                have HB5 := Lib.hid hb5'
                have K15 := Lib.hid k15
                have hw5 := HG5.out.size
                simp at hw5
                clear hc5 hg5 hb5' k15
                go_wp2_with fail
                refine (refDone w3.heap.size s _ _ _ hs' (bytesP_le hat) (Blk.setOther HC5.out (by simp; omega) _)).mono ?_
                generalize bytesS s p f _ = b at *
                generalize bytesP s p f _ = p' at *
                generalize bytesF s p f _ = f' at *
                have HZ0 : Hid (cutDoneE s p' f' = if f' = 0 ∧ p' < s.size then 2 else f') := rfl
                rintro e w6 ⟨rfl, n6, rfl⟩
                rw [← HZ0.out]
                have K9 : Hid (Blk (w5.setCell ⟨wr.heap.size, 6, none⟩ (.string b)) wr.heap.size #[.int .i64 k, .int .i64 a0, .int .i64 a1, .int .i64 a4, .int .i64 a2, .int .i64 a3, .string b] 65) := Lib.hid (K5.out.setCell 6 (.string b))
                have HB6 : Hid (Below w.heap.size w ((w5.setCell ⟨wr.heap.size, 6, none⟩ (.string b)).drewN n6)) := Lib.hid (below_drewN (HB5.out.setCell (by simp; omega) _) n6)
                have K16 := Lib.hid ((K15.out.setOther (p := ⟨wr.heap.size, 6, none⟩) (by simp; omega) (.string b)))
                by_cases hE : cutDoneE s p' f' = 0
                · have HG : Hid (getMv s k = (0, ⟨k, a0, a1, a4, a2, a3, b⟩)) := Lib.hid (by rw [HE'.out, if_pos hE]; rfl)
                  rw [hE]
                  clear hE HE' HZ0
                  go_wp2_with (first | (refine wpList_load_blk rfl 65 _ rfl wr.heap.size rfl 65 _ _ (K9.out.drewN _) Tryz.underlying65 rfl (by kernel_rfl) ?_) | (refine wpList_store_blk rfl 65 _ _ rfl (w.heap.size + 1) #[.int .i64 k, .int .i64 a0, .int .i64 a1, .int .i64 a4, .int .i64 a2, .int .i64 a3, .string b] rfl rfl 65 _ (K16.out.drewN _) rfl (by kernel_rfl) (oneM ⟨k, a0, a1, a4, a2, a3, b⟩) ?_; intro w9 hk9 hg9))
                  refine bodyPost_ret (v := .tuple #[.agg #[.int .i64 k, .int .i64 a0, .int .i64 a1, .int .i64 a4, .int .i64 a2, .int .i64 a3, .string b], .int .i64 0]) ?_ rfl ?_
                  · exact results_cell_tmp rfl _ _ (w.heap.size + 1) 65 _ _ _ _ rfl rfl hk9 Tryz.underlying65 rfl (by kernel_rfl)
                  · exact ⟨by rw [HKK.out, HG.out]; try rfl, HB6.out.trans (below_grown hg9 (by omega) HB6.out.size)⟩
                · have HG : Hid (getMv s k = (cutDoneE s p' f', zeroM)) := Lib.hid (by rw [HE'.out, if_neg hE])
                  generalize cutDoneE s p' f' = E at *
                  have hE1 : (E != 0) = true := by rw [bne_iff_ne]; exact hE
                  clear HE' HZ0 hE
                  go_wp2_with (first | (refine wpList_store_blk rfl 65 _ _ rfl (w.heap.size + 1) zeroM.cells rfl rfl 65 _ (K16.out.drewN _) rfl (by kernel_rfl) (oneM zeroM) ?_; intro w9 hk9 hg9))
                  refine bodyPost_ret (v := .tuple #[.agg zeroM.cells, .int .i64 E]) ?_ rfl ?_
                  · exact results_cell_tmp rfl _ _ (w.heap.size + 1) 65 _ _ _ _ rfl rfl hk9 Tryz.underlying65 rfl (by kernel_rfl)
                  · exact ⟨by rw [HKK.out, HG.out]; try rfl, HB6.out.trans (below_grown hg9 (by omega) HB6.out.size)⟩
      · have HG : Hid (getM ⟨46, s⟩ = (7, zeroM)) := Lib.hid (by simp [getM, h0, hkn])
        rw [HG.out]
        clear HG
        have HKN := Lib.hid hkn
        clear h0 hkn
        show Calls _ _ #[.agg #[.int .i64 46, .string s]] _ _
        go_enter Tryz.func68, Tryz.ntmps68
        go_wp2_with fail
        rw [wrap64_u8, ← hb0.out]
        refine (refKnown (byte0 s) _).mono ?_
        rintro e w1 ⟨rfl, rfl⟩
        rw [show mpKnown (byte0 s) = false from by simpa using HKN.out]
        clear hb0 HKN
        go_wp2_with fail
        exact bodyPost_ret (v := .tuple #[.agg zeroM.cells, .int .i64 7]) (by simp [results, Tryz.results68, go_sem]; rfl) rfl ⟨rfl, ((Below.refl _ _).alloc (Nat.le_refl _) _).alloc (by simp) _⟩
  · have HG : Hid (getM ⟨kind, s⟩ = (7, zeroM)) := Lib.hid (by simp [getM, hk])
    rw [HG.out]
    clear HG
    have hk1 : (kind != 46) = true := by rw [bne_iff_ne]; exact hk
    show Calls _ _ #[.agg #[.int .i64 kind, .string s]] _ _
    go_enter Tryz.func68, Tryz.ntmps68
    go_wp2_with fail
    exact bodyPost_ret (v := .tuple #[.agg zeroM.cells, .int .i64 7]) (by simp [results, Tryz.results68, go_sem]; rfl) rfl ⟨rfl, ((Below.refl _ _).alloc (Nat.le_refl _) _).alloc (by simp) _⟩
end Go.Proofs.YtjboillkhhefaaaGreatDoor
