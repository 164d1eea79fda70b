/- errors.As at a fault of package forge: the walk. -/
import Derived.Test.YtjboillkhhefaaaGreatDoorAs
set_option linter.unusedVariables false
namespace Go.Proofs.YtjboillkhhefaaaGreatDoor
open Go.RowKit Go.Extern.Stop Go.Stop Go.Extern

theorem R.assertAs (v : Value) (w : World) : (Instr.typeAssert (.iface 126 v) 72 207 true).run Tryz.prog w = .ok (.tuple #[.nilIface, .bool false]) w := run_typeAssert_lacksB Tryz.underlying207 (by kernel_rfl) (by kernel_rfl) v _ w
theorem R.assertUn (v : Value) (w : World) : (Instr.typeAssert (.iface 126 v) 72 210 true).run Tryz.prog w = .ok (.tuple #[.iface 126 v, .bool true]) w := by kernel_rfl
set_option maxRecDepth 100000 in
set_option maxHeartbeats 1000000 in
theorem errorsas (part why old : Int) (vb tb : Nat) (w : World) (hv : w.cell? ⟨vb, 0, none⟩ = some (.pointer (some ⟨tb, 0, none⟩))) (ht : Blk w tb #[.int .i64 old] 32) (hne : vb ≠ tb) :
    Calls Tryz.prog 67 #[.iface 126 (.agg #[.int .i64 part, .int .i64 why]), .iface 75 (.pointer (some ⟨tb, 0, none⟩)), .agg #[.pointer (some ⟨2, 75, none⟩), .pointer (some ⟨vb, 0, none⟩), .int .u64 150], .iface 202 (.agg #[.pointer (some ⟨2, 32, none⟩)])] w fun e w' =>
      e = .returned (.bool true) ∧ w'.cell? ⟨tb, 0, none⟩ = some (.int .i64 why) ∧ Touch w w' (fun k => k = tb) := by
  have hvl := World.block_lt_of_cell? _ _ hv
  have htl := ht.lt
  have HV := Lib.hid hv
  have HT := Lib.hid ht
  have h117 := @run_callFunc_extern Tryz.prog 117 _ ReflectliteType.typeOf Tryz.func117 (by kernel_rfl) (by kernel_rfl) (by kernel_rfl) (by kernel_rfl)
  have h216 := @run_callFunc_extern Tryz.prog 216 _ (ReflectliteType.relation "AssignableTo" ReflectliteType.assignableTo) Tryz.func216 (by kernel_rfl) (by kernel_rfl) (by kernel_rfl) (by kernel_rfl)
  have h118 := @run_callFunc_extern Tryz.prog 118 _ (ReflectliteValue.method (ReflectliteValue.valueError "reflectlite.Value.Elem" 0) ReflectliteValue.elem) Tryz.func118 (by kernel_rfl) (by kernel_rfl) (by kernel_rfl) (by kernel_rfl)
  have h64 := @run_callFunc_extern Tryz.prog 64 _ (fun args => ReflectliteValue.unpack (args.getD 0 (.tuple #[]))) Tryz.func64 (by kernel_rfl) (by kernel_rfl) (by kernel_rfl) (by kernel_rfl)
  have h119 := @run_callFunc_extern Tryz.prog 119 _ ReflectliteValue.set Tryz.func119 (by kernel_rfl) (by kernel_rfl) (by kernel_rfl) (by kernel_rfl)
  have tF := R.typeOfF
  have tE := R.typeOfE
  have mA := R.methodAssignableTo
  have mU := R.methodUnwrap
  have aF := R.assignableF
  have aE := R.assignableE
  have vE := R.valueOfE
  have aA := R.assertAs
  have aU := R.assertUn
  clear hv ht
  go_enter Tryz.func67, Tryz.ntmps67
  go_wp2_with fail
  refine wp_loop_rounds 2 ?_
  rw [rounds_succ]
  go_wp2_with fail
  refine (faultUnwrap part why _).mono ?_
  rintro e w1 ⟨rfl, rfl⟩
  have el := R.elemV ⟨vb, 0, none⟩ ⟨tb, 0, none⟩ ((w.alloc (.cells #[.pointer (some ⟨2, 75, none⟩), .pointer (some ⟨vb, 0, none⟩), .int .u64 150] 133)).alloc (.cells #[.int .i64 part, .int .i64 why] 126)) (by rw [cell_alloc (by simp; omega), cell_alloc (by exact hvl)]; exact HV.out)
  have K2 := Lib.hid (((HT.out.alloc (.cells #[.pointer (some ⟨2, 75, none⟩), .pointer (some ⟨vb, 0, none⟩), .int .u64 150] 133)).alloc (.cells #[.int .i64 part, .int .i64 why] 126)).alloc (.cells #[.int .i64 why] 32))
  have st := R.setE ⟨tb, 0, none⟩ ⟨w.heap.size + 1 + 1, 0, none⟩ why (.int .i64 old) (((w.alloc (.cells #[.pointer (some ⟨2, 75, none⟩), .pointer (some ⟨vb, 0, none⟩), .int .u64 150] 133)).alloc (.cells #[.int .i64 part, .int .i64 why] 126)).alloc (.cells #[.int .i64 why] 32))
    (by rw [(Blk.at _ #[.int .i64 why] 32 (w.heap.size + 1 + 1) (by simp)).cell 0]; rfl) (by rw [K2.out.cell 0]; rfl) (K2.out.frozen 0)
  go_wp2_with fail
  rw [rounds_succ]
  go_wp2_with fail
  go_ret
  refine ⟨rfl, ?_, ?_⟩
  · rw [(K2.out.setCell 0 (.int .i64 why)).cell 0]; rfl
  · exact Touch.setCell (S := fun k => k = tb) (((((Touch.refl w _).alloc _).alloc _).alloc _)) ⟨tb, 0, none⟩ (fun _ => rfl) _

set_option maxRecDepth 100000 in
set_option maxHeartbeats 1000000 in
theorem errorsAs (part why old : Int) (tb : Nat) (w : World) (hg : w.cell? ⟨0, 0, none⟩ = some (.iface 202 (.agg #[.pointer (some ⟨2, 72, none⟩)]))) (ht : Blk w tb #[.int .i64 old] 32) :
    Calls Tryz.prog 28 #[.iface 126 (.agg #[.int .i64 part, .int .i64 why]), .iface 75 (.pointer (some ⟨tb, 0, none⟩))] w fun e w' =>
      e = .returned (.bool true) ∧ w'.cell? ⟨tb, 0, none⟩ = some (.int .i64 why) ∧ Touch w w' (fun k => k = tb) := by
  have hgl := World.block_lt_of_cell? _ _ hg
  have htl := ht.lt
  have HT := Lib.hid ht
  have HG := Lib.hid hg
  have h64 := @run_callFunc_extern Tryz.prog 64 _ (fun args => ReflectliteValue.unpack (args.getD 0 (.tuple #[]))) Tryz.func64 (by kernel_rfl) (by kernel_rfl) (by kernel_rfl) (by kernel_rfl)
  have h65 := @run_callFunc_extern Tryz.prog 65 _ (ReflectliteValue.methodAny (ReflectliteValue.valueError "reflectlite.Value.Type" 0) (fun t _ _ _ => ReflectliteType.toType t)) Tryz.func65 (by kernel_rfl) (by kernel_rfl) (by kernel_rfl) (by kernel_rfl)
  have h66 := @run_callFunc_extern Tryz.prog 66 _ (ReflectliteValue.method (ReflectliteValue.valueError "reflectlite.Value.IsNil" 0) ReflectliteValue.isNil) Tryz.func66 (by kernel_rfl) (by kernel_rfl) (by kernel_rfl) (by kernel_rfl)
  have h205 := @run_callFunc_extern Tryz.prog 205 _ (ReflectliteType.abiMethod fun t => do pure (.int .u8 (← Rtype.kind t))) Tryz.func205 (by kernel_rfl) (by kernel_rfl) (by kernel_rfl) (by kernel_rfl)
  have h218 := @run_callFunc_extern Tryz.prog 218 _ (ReflectliteType.method ReflectliteType.elem) Tryz.func218 (by kernel_rfl) (by kernel_rfl) (by kernel_rfl) (by kernel_rfl)
  have h219 := @run_callFunc_extern Tryz.prog 219 _ (ReflectliteType.relation "Implements" ReflectliteType.implements_) Tryz.func219 (by kernel_rfl) (by kernel_rfl) (by kernel_rfl) (by kernel_rfl)
  have f6 := R.valueOfP
  have f7 := R.typeP
  have mK := R.methodKind
  have mE := R.methodElem
  have mI := R.methodImplements
  have k1 := R.kindP
  have k2 := R.kindE
  have e1 := R.elemP
  have i1 := R.implementsE
  have n8 := R.isNilP ⟨w.heap.size, 0, none⟩ ⟨tb, 0, none⟩ ((w.alloc (.cells #[.pointer (some ⟨tb, 0, none⟩)] 75)).alloc (.cells #[.pointer (some ⟨2, 75, none⟩), .pointer (some ⟨w.heap.size, 0, none⟩), .int .u64 150] 133)) (by simp)
  have hg2 : ((w.alloc (.cells #[.pointer (some ⟨tb, 0, none⟩)] 75)).alloc (.cells #[.pointer (some ⟨2, 75, none⟩), .pointer (some ⟨w.heap.size, 0, none⟩), .int .u64 150] 133)).cell? ⟨0, 0, none⟩ = some (.iface 202 (.agg #[.pointer (some ⟨2, 72, none⟩)])) := by
    rw [cell_alloc (by simp), cell_alloc (by exact hgl)]; exact HG.out
  clear ht hg
  go_enter Tryz.func28, Tryz.ntmps28
  go_wp2_with fail
  refine (errorsas part why old w.heap.size tb _ (by rw [((Blk.new w #[.pointer (some ⟨tb, 0, none⟩)] 75).alloc _).cell 0]; rfl) ((HT.out.alloc _).alloc _) (by omega)).mono ?_
  rintro e w2 ⟨rfl, hc2, ht2⟩
  have HC2 := Lib.hid hc2
  have HT2 := Lib.hid ht2
  clear hc2 ht2
  go_wp2_with fail
  go_ret
  exact ⟨rfl, HC2.out, ((((Touch.refl w _).alloc _).alloc _)).trans HT2.out⟩
end Go.Proofs.YtjboillkhhefaaaGreatDoor
