/- A part of what is proved here: lemmas and contracts of single functions. No condition but those that each names. -/
import Derived.Test.YtkkfmkhbdoeglabGreatDoorG17
namespace Go.Proofs.YtkkfmkhbdoeglabGreatDoor
open Go.RowKit Go.Extern.Stop Go.Stop Go.Extern
theorem typeOfE (v : Value) (w : World) : (ReflectliteType.typeOf #[.iface 184 v]).run Tryz.prog w = .ok (.iface 286 (.agg #[.pointer (some ⟨2, 184, none⟩)])) w := by kernel_rfl
theorem assignableEI (w : World) : (ReflectliteType.relation "AssignableTo" ReflectliteType.assignableTo #[.agg #[.pointer (some ⟨2, 184, none⟩)], .iface 286 (.agg #[.pointer (some ⟨2, 188, none⟩)])]).run Tryz.prog w = .ok (.bool false) w := by kernel_rfl
theorem assignableFI (w : World) : (ReflectliteType.relation "AssignableTo" ReflectliteType.assignableTo #[.agg #[.pointer (some ⟨2, 171, none⟩)], .iface 286 (.agg #[.pointer (some ⟨2, 188, none⟩)])]).run Tryz.prog w = .ok (.bool false) w := by kernel_rfl
-- which of the errors' own methods there are
theorem noAsE (v : Value) (xT : TypeId) (w : World) : (Instr.typeAssert (.iface 184 v) xT 290 true).run Tryz.prog w = .ok (.tuple #[.nilIface, .bool false]) w := run_typeAssert_lacksB Tryz.underlying290 (by kernel_rfl) (by kernel_rfl) v xT w
theorem noUnE (v : Value) (xT : TypeId) (w : World) : (Instr.typeAssert (.iface 184 v) xT 293 true).run Tryz.prog w = .ok (.tuple #[.nilIface, .bool false]) w := run_typeAssert_lacksB Tryz.underlying293 (by kernel_rfl) (by kernel_rfl) v xT w
theorem noUsE (v : Value) (xT : TypeId) (w : World) : (Instr.typeAssert (.iface 184 v) xT 294 true).run Tryz.prog w = .ok (.tuple #[.nilIface, .bool false]) w := run_typeAssert_lacksB Tryz.underlying294 (by kernel_rfl) (by kernel_rfl) v xT w
theorem noIsE (v : Value) (xT : TypeId) (w : World) : (Instr.typeAssert (.iface 184 v) xT 297 true).run Tryz.prog w = .ok (.tuple #[.nilIface, .bool false]) w := run_typeAssert_lacksB Tryz.underlying297 (by kernel_rfl) (by kernel_rfl) v xT w
theorem noAsF (v : Value) (xT : TypeId) (w : World) : (Instr.typeAssert (.iface 171 v) xT 290 true).run Tryz.prog w = .ok (.tuple #[.nilIface, .bool false]) w := run_typeAssert_lacksB Tryz.underlying290 (by kernel_rfl) (by kernel_rfl) v xT w
theorem noUnF (v : Value) (xT : TypeId) (w : World) : (Instr.typeAssert (.iface 171 v) xT 293 true).run Tryz.prog w = .ok (.tuple #[.nilIface, .bool false]) w := run_typeAssert_lacksB Tryz.underlying293 (by kernel_rfl) (by kernel_rfl) v xT w
theorem hasUsF (v : Value) (xT : TypeId) (w : World) : (Instr.typeAssert (.iface 171 v) xT 294 true).run Tryz.prog w = .ok (.tuple #[.iface 171 v, .bool true]) w := run_typeAssert_hasB Tryz.underlying294 (by kernel_rfl) v xT w
theorem noIsF (v : Value) (xT : TypeId) (w : World) : (Instr.typeAssert (.iface 171 v) xT 297 true).run Tryz.prog w = .ok (.tuple #[.nilIface, .bool false]) w := run_typeAssert_lacksB Tryz.underlying297 (by kernel_rfl) (by kernel_rfl) v xT w
theorem methodUnwrapF (h : Value) (w : World) : (Go.method 470 171 h "Unwrap").run Tryz.prog w = .ok (246, h) w := by kernel_rfl
set_option maxRecDepth 100000 in
set_option maxHeartbeats 1000000 in
theorem as_errno (k : Int) (tg v1 v2 v3 : Value) (w : World) :
    Calls Tryz.prog 144 #[.iface 184 (.int .i64 k), tg, .agg #[v1, v2, v3], .iface 286 (.agg #[.pointer (some ⟨2, 188, none⟩)])] w fun e w' => e = .returned (.bool false) ∧ Below w.heap.size w w' := by
  have x6 := @run_callFunc_extern Tryz.prog 145 _ ReflectliteType.typeOf Tryz.func145 (by kernel_rfl) (by kernel_rfl) (by kernel_rfl) (by kernel_rfl)
  have x7 := @run_callFunc_extern Tryz.prog 257 _ (ReflectliteType.relation "AssignableTo" ReflectliteType.assignableTo) Tryz.func257 (by kernel_rfl) (by kernel_rfl) (by kernel_rfl) (by kernel_rfl)
  have tO := typeOfE
  have mA := methodAssignableTo
  have aE := assignableEI
  have a1 := noAsE
  have a2 := noUnE
  have a3 := noUsE
  go_enter Tryz.func144, Tryz.ntmps144
  go_wp2
  refine wp_loop_rounds 1 ?_
  rw [rounds_succ]
  go_wp2
  go_ret
  exact ⟨rfl, (Below.refl _ w).alloc (Nat.le_refl _) _⟩
theorem Unwrap_nil (e : Addr) (k : Int) (w : World) (h0 : w.cell? ⟨e.block, e.off, none⟩ = some (.int .i64 k)) (h2 : w.cell? ⟨e.block, e.off + 2, none⟩ = some .nilIface) (he : e.spot = none) :
    Calls Tryz.prog 246 #[.pointer (some e)] w fun r w' => r = .returned (.slice (some ⟨w.heap.size, 0, none⟩) 1 1) ∧ w' = w.alloc (.cells #[.iface 184 (.int .i64 k)] 128) := by
  obtain ⟨b, o, s⟩ := e
  obtain rfl : s = none := he
  go_enter Tryz.func246, Tryz.ntmps246
  go_wp2
  go_ret
  exact ⟨rfl, rfl⟩
set_option maxRecDepth 100000 in
set_option maxHeartbeats 1000000 in
theorem as_fault_miss (b : Nat) (k n : Int) (tg v1 v2 v3 : Value) (w : World) (hb : w.heap[b]? = some (.cells #[.int .i64 k, .int .i64 n, .nilIface] 186 (0, 0))) :
    Calls Tryz.prog 144 #[.iface 171 (.pointer (some ⟨b, 0, none⟩)), tg, .agg #[v1, v2, v3], .iface 286 (.agg #[.pointer (some ⟨2, 188, none⟩)])] w fun e w' => e = .returned (.bool false) ∧ Below w.heap.size w w' := by
  have x6 := @run_callFunc_extern Tryz.prog 145 _ ReflectliteType.typeOf Tryz.func145 (by kernel_rfl) (by kernel_rfl) (by kernel_rfl) (by kernel_rfl)
  have x7 := @run_callFunc_extern Tryz.prog 257 _ (ReflectliteType.relation "AssignableTo" ReflectliteType.assignableTo) Tryz.func257 (by kernel_rfl) (by kernel_rfl) (by kernel_rfl) (by kernel_rfl)
  have tO := typeOfF
  have mA := methodAssignableTo
  have aE := assignableFI
  have a1 := noAsF
  have a2 := noUnF
  have a3 := hasUsF
  have mU := methodUnwrapF
  have hlt := (Array.getElem?_eq_some_iff.1 hb).1
  go_enter Tryz.func144, Tryz.ntmps144
  go_wp2
  refine wp_loop_rounds 1 ?_
  rw [rounds_succ]
  go_wp2_with (go_at_call 246; refine (Unwrap_nil ⟨b, 0, none⟩ k _ (cell_of_row _ b 0 _ _ _ ((Below.heap_alloc _ _ _ hlt).trans hb)) (cell_of_row _ b 2 _ _ _ ((Below.heap_alloc _ _ _ hlt).trans hb)) rfl).mono ?_; rintro e w' ⟨rfl, rfl⟩)
  refine wp_loop_rounds 2 ?_
  rw [rounds_succ]
  go_wp2_with (go_at_call 144; refine (as_errno k _ _ _ _ _).mono ?_; rintro e w1 ⟨rfl, hb1⟩)
  rw [rounds_succ]
  go_wp2
  go_ret
  exact ⟨rfl, (((Below.refl _ w).alloc (Nat.le_refl _) _).alloc (by simp) _).trans (hb1.mono (by simp <;> omega))⟩
set_option maxHeartbeats 4000000 in
theorem As_miss (b : Nat) (k n : Int) (t : Addr) (w : World) (hb : w.heap[b]? = some (.cells #[.int .i64 k, .int .i64 n, .nilIface] 186 (0, 0))) (hg : w.cell? ⟨0, 0, none⟩ = some (.iface 286 (.agg #[.pointer (some ⟨2, 128, none⟩)]))) :
    Calls Tryz.prog 104 #[.iface 171 (.pointer (some ⟨b, 0, none⟩)), .iface 189 (.pointer (some t))] w fun ev w' => ev = .returned (.bool false) ∧ Below w.heap.size w w' := by
  have x0 := @run_callFunc_extern Tryz.prog 141 _ (fun args => ReflectliteValue.unpack (args.getD 0 (.tuple #[]))) Tryz.func141 (by kernel_rfl) (by kernel_rfl) (by kernel_rfl) (by kernel_rfl)
  have x1 := @run_callFunc_extern Tryz.prog 142 _ (ReflectliteValue.methodAny (ReflectliteValue.valueError "reflectlite.Value.Type" 0) (fun t _ _ _ => ReflectliteType.toType t)) Tryz.func142 (by kernel_rfl) (by kernel_rfl) (by kernel_rfl) (by kernel_rfl)
  have x2 := @run_callFunc_extern Tryz.prog 143 _ (ReflectliteValue.method (ReflectliteValue.valueError "reflectlite.Value.IsNil" 0) ReflectliteValue.isNil) Tryz.func143 (by kernel_rfl) (by kernel_rfl) (by kernel_rfl) (by kernel_rfl)
  have x3 := @run_callFunc_extern Tryz.prog 237 _ (ReflectliteType.abiMethod fun t => do pure (.int .u8 (← Rtype.kind t))) Tryz.func237 (by kernel_rfl) (by kernel_rfl) (by kernel_rfl) (by kernel_rfl)
  have x4 := @run_callFunc_extern Tryz.prog 259 _ (ReflectliteType.method ReflectliteType.elem) Tryz.func259 (by kernel_rfl) (by kernel_rfl) (by kernel_rfl) (by kernel_rfl)
  have x5 := @run_callFunc_extern Tryz.prog 260 _ (ReflectliteType.relation "Implements" ReflectliteType.implements_) Tryz.func260 (by kernel_rfl) (by kernel_rfl) (by kernel_rfl) (by kernel_rfl)
  have x6 := @run_callFunc_extern Tryz.prog 145 _ ReflectliteType.typeOf Tryz.func145 (by kernel_rfl) (by kernel_rfl) (by kernel_rfl) (by kernel_rfl)
  have x7 := @run_callFunc_extern Tryz.prog 257 _ (ReflectliteType.relation "AssignableTo" ReflectliteType.assignableTo) Tryz.func257 (by kernel_rfl) (by kernel_rfl) (by kernel_rfl) (by kernel_rfl)
  have x8 := @run_callFunc_extern Tryz.prog 183 _ (ReflectliteValue.method (ReflectliteValue.valueError "reflectlite.Value.Elem" 0) ReflectliteValue.elem) Tryz.func183 (by kernel_rfl) (by kernel_rfl) (by kernel_rfl) (by kernel_rfl)
  have x9 := @run_callFunc_extern Tryz.prog 184 _ ReflectliteValue.set Tryz.func184 (by kernel_rfl) (by kernel_rfl) (by kernel_rfl) (by kernel_rfl)
  have tO := typeOfI
  have mA := methodAssignableTo
  have a25 := assignableI
  have v25 := valueOfI
  have f6 := valueOfPI
  have f7 := typePI
  have mK := methodKind
  have mE := methodElem
  have mI := methodImplements
  have k27 := kindPI
  have k25 := kindI
  have e27 := elemPI
  have i25 := implementsI
  have n8 := isNilPI ⟨w.heap.size, 0, none⟩ t ((w.alloc (.cells #[.pointer (some t)] 189)).alloc (.cells #[.pointer (some ⟨2, 189, none⟩), .pointer (some ⟨w.heap.size, 0, none⟩), .int .u64 150] 232)) (by simp)
  have hlt : 0 < w.heap.size := cell_lt hg
  have hg2 : ((w.alloc (.cells #[.pointer (some t)] 189)).alloc (.cells #[.pointer (some ⟨2, 189, none⟩), .pointer (some ⟨w.heap.size, 0, none⟩), .int .u64 150] 232)).cell? ⟨0, 0, none⟩ = some (.iface 286 (.agg #[.pointer (some ⟨2, 128, none⟩)])) := by
    rw [World.cell?_alloc_lt _ _ ⟨0, 0, none⟩ (by simp <;> omega), World.cell?_alloc_lt _ _ ⟨0, 0, none⟩ hlt]; exact hg
  have hlb := (Array.getElem?_eq_some_iff.1 hb).1
  go_enter Tryz.func104, Tryz.ntmps104
  go_wp2_with (go_at_call 144; refine (as_fault_miss b k n _ _ _ _ _ (((Below.heap_alloc _ _ _ (by simp <;> omega)).trans (Below.heap_alloc _ _ _ hlb)).trans hb)).mono ?_; rintro e w1 ⟨rfl, hb1⟩)
  go_ret
  exact ⟨rfl, (((Below.refl _ w).alloc (Nat.le_refl _) _).alloc (by simp) _).trans (hb1.mono (by simp <;> omega))⟩
end Go.Proofs.YtkkfmkhbdoeglabGreatDoor
