/- A part of what is proved here: lemmas and contracts of single functions. No condition but those that each names. -/
import Derived.Test.YtkkfmkhbdoeglabGreatDoorG18
namespace Go.Proofs.YtkkfmkhbdoeglabGreatDoor
open Go.RowKit Go.Extern.Stop Go.Stop Go.Extern
theorem equalIn_ifaces {P : Program} (w : World) (d : Nat) {ti tn : TypeId} {ms : Array (String × TypeId)} {i : TypeInfo} {k : IntKind} (a b : Int)
    (hi : P.underlying ti = some (.interface ms)) (hn : P.underlying tn = some (.int k)) (hinfo : P.info? tn = some i) (hcomp : i.comparable = true) :
    (Op.equalIn (d + 2) ti (.iface tn (.int k a)) (.iface tn (.int k b))).run P w = .ok (a == b) w := by
  simp [Op.equalIn, run_underlying hi, run_underlying hn, typeInfo, hinfo, hcomp]
theorem eqlErrno (a b : Int) (w : World) : (binOp .eql 128 (.iface 184 (.int .i64 a)) (.iface 184 (.int .i64 b))).run Tryz.prog w = .ok (.bool (a == b)) w := by
  have hc : (Tryz.prog.info? 184).map (·.comparable) = some true := by kernel_rfl
  obtain ⟨i, hi, hcomp⟩ := Option.map_eq_some_iff.1 hc
  have h := equalIn_ifaces (P := Tryz.prog) w 9998 a b Tryz.underlying128 Tryz.underlying184 hi hcomp
  simp only [binOp]
  simp [Op.equal, Op.maxDepth, h]
theorem eqlFaultErrno (x y : Value) (w : World) : (binOp .eql 128 (.iface 171 x) (.iface 184 y)).run Tryz.prog w = .ok (.bool false) w :=
  run_eql_iface_types _ _ _ _ Tryz.underlying128 (by decide) w
theorem comparableE (w : World) : (Go.method 470 286 (.agg #[.pointer (some ⟨2, 184, none⟩)]) "Comparable").run Tryz.prog w = .ok (258, .agg #[.pointer (some ⟨2, 184, none⟩)]) w := by kernel_rfl
set_option maxRecDepth 100000 in
set_option maxHeartbeats 1000000 in
theorem is_errno (k m : Int) (w : World) :
    Calls Tryz.prog 146 #[.iface 184 (.int .i64 k), .iface 184 (.int .i64 m), .bool true] w fun e w' => e = .returned (.bool (k == m)) ∧ w = w' := by
  have a1 := noIsE
  have a2 := noUnE
  have a3 := noUsE
  have he := eqlErrno
  cases hkm : (k == m)
  · go_enter Tryz.func146, Tryz.ntmps146
    go_wp2
    refine wp_loop_rounds 1 ?_
    rw [rounds_succ]
    go_wp2
    go_ret
    exact ⟨rfl, rfl⟩
  · go_enter Tryz.func146, Tryz.ntmps146
    go_wp2
    refine wp_loop_rounds 1 ?_
    rw [rounds_succ]
    go_wp2
    go_ret
    exact ⟨rfl, rfl⟩
set_option maxRecDepth 100000 in
set_option maxHeartbeats 1000000 in
theorem is_fault (b : Nat) (k n m : Int) (w : World) (hb : w.heap[b]? = some (.cells #[.int .i64 k, .int .i64 n, .nilIface] 186 (0, 0))) :
    Calls Tryz.prog 146 #[.iface 171 (.pointer (some ⟨b, 0, none⟩)), .iface 184 (.int .i64 m), .bool true] w fun e w' => e = .returned (.bool (k == m)) ∧ Below w.heap.size w w' := by
  have a1 := noIsF
  have a2 := noUnF
  have a3 := hasUsF
  have mU := methodUnwrapF
  have he := eqlFaultErrno
  cases hkm : (k == m)
  all_goals
    have HK := Lib.hid hkm
    clear hkm
    go_enter Tryz.func146, Tryz.ntmps146
    go_wp2
    refine wp_loop_rounds 1 ?_
    rw [rounds_succ]
    go_wp2_with (go_at_call 246; refine (Unwrap_nil ⟨b, 0, none⟩ k _ (cell_of_row _ b 0 _ _ _ hb) (cell_of_row _ b 2 _ _ _ hb) rfl).mono ?_; rintro e w' ⟨rfl, rfl⟩)
    refine wp_loop_rounds 2 ?_
    rw [rounds_succ]
    go_wp2_with (go_at_call 146; refine (is_errno k m _).mono ?_; rintro e w1 ⟨rfl, rfl⟩; rw [HK.out])
  · rw [rounds_succ]
    go_wp2
    go_ret
    exact ⟨rfl, (Below.refl _ w).alloc (Nat.le_refl _) _⟩
  · go_ret
    exact ⟨rfl, (Below.refl _ w).alloc (Nat.le_refl _) _⟩
set_option maxRecDepth 100000 in
set_option maxHeartbeats 1000000 in
theorem Is_fault (b : Nat) (k n m : Int) (w : World) (hb : w.heap[b]? = some (.cells #[.int .i64 k, .int .i64 n, .nilIface] 186 (0, 0))) :
    Calls Tryz.prog 105 #[.iface 171 (.pointer (some ⟨b, 0, none⟩)), .iface 184 (.int .i64 m)] w fun e w' => e = .returned (.bool (k == m)) ∧ Below w.heap.size w w' := by
  have x6 := @run_callFunc_extern Tryz.prog 145 _ ReflectliteType.typeOf Tryz.func145 (by kernel_rfl) (by kernel_rfl) (by kernel_rfl) (by kernel_rfl)
  have x7 := @run_callFunc_extern Tryz.prog 258 _ (ReflectliteType.method fun t => do Rtype.noPackHeld "Comparable" t; pure (.bool (← typeInfo t).comparable)) Tryz.func258 (by kernel_rfl) (by kernel_rfl) (by kernel_rfl) (by kernel_rfl)
  have x8 : ∀ w, (ReflectliteType.method (fun t => do Rtype.noPackHeld "Comparable" t; (fun a : TypeInfo => Value.bool a.comparable) <$> typeInfo t) #[.agg #[.pointer (some ⟨2, 184, none⟩)]]).run Tryz.prog w = .ok (.bool true) w := fun w => by kernel_rfl
  have tO := typeOfE
  have mC := comparableE
  go_enter Tryz.func105, Tryz.ntmps105
  go_wp2_with (go_at_call 146; refine (is_fault b k n m _ hb).mono ?_; rintro e w1 ⟨rfl, hb1⟩)
  go_ret
  exact ⟨rfl, hb1⟩
end Go.Proofs.YtkkfmkhbdoeglabGreatDoor
