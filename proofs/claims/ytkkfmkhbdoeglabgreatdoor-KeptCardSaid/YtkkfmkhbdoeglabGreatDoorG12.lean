/- A part of what is proved here: lemmas and contracts of single functions. No condition but those that each names. -/
import Derived.Test.YtkkfmkhbdoeglabGreatDoorG00
import Derived.Test.YtkkfmkhbdoeglabGreatDoorG11
set_option maxHeartbeats 4000000
set_option maxRecDepth 100000
namespace Go.Proofs.YtkkfmkhbdoeglabGreatDoor
open Go.RowKit Go.Extern.Stop Go.Stop Go.Extern
theorem zJ (v:Value) (w:World):(ReflectliteType.typeOf #[.iface 184 v]).run Tryz.prog w = .ok (.iface 286 (.agg #[.pointer (some ⟨2,184,none⟩)])) w:=by kernel_rfl
theorem yX (w : World) : (ReflectliteType.relation "AssignableTo" ReflectliteType.assignableTo #[.agg #[.pointer (some ⟨2, 184, none⟩)], .iface 286 (.agg #[.pointer (some ⟨2, 188, none⟩)])]).run Tryz.prog w = .ok (.bool false) w := by kernel_rfl
theorem sm (w : World) : (ReflectliteType.relation "AssignableTo" ReflectliteType.assignableTo #[.agg #[.pointer (some ⟨2, 171, none⟩)], .iface 286 (.agg #[.pointer (some ⟨2, 188, none⟩)])]).run Tryz.prog w = .ok (.bool false) w := by kernel_rfl
theorem Ji (v:Value) (b:TypeId) (w:World):(Instr.typeAssert (.iface 184 v) b 290 true).run Tryz.prog w = .ok (.tuple #[.nilIface,.bool false]) w:=run_typeAssert_lacksB Tryz.underlying290 (by kernel_rfl) (by kernel_rfl) v b w
theorem Is (v:Value) (b:TypeId) (w:World):(Instr.typeAssert (.iface 184 v) b 293 true).run Tryz.prog w = .ok (.tuple #[.nilIface,.bool false]) w:=run_typeAssert_lacksB Tryz.underlying293 (by kernel_rfl) (by kernel_rfl) v b w
theorem It (v:Value) (b:TypeId) (w:World):(Instr.typeAssert (.iface 184 v) b 294 true).run Tryz.prog w = .ok (.tuple #[.nilIface,.bool false]) w:=run_typeAssert_lacksB Tryz.underlying294 (by kernel_rfl) (by kernel_rfl) v b w
theorem Jj (v:Value) (b:TypeId) (w:World):(Instr.typeAssert (.iface 184 v) b 297 true).run Tryz.prog w = .ok (.tuple #[.nilIface,.bool false]) w:=run_typeAssert_lacksB Tryz.underlying297 (by kernel_rfl) (by kernel_rfl) v b w
theorem Iq (v:Value) (b:TypeId) (w:World):(Instr.typeAssert (.iface 171 v) b 290 true).run Tryz.prog w = .ok (.tuple #[.nilIface,.bool false]) w:=run_typeAssert_lacksB Tryz.underlying290 (by kernel_rfl) (by kernel_rfl) v b w
theorem DS (v:Value) (b:TypeId) (w:World):(Instr.typeAssert (.iface 171 v) b 293 true).run Tryz.prog w = .ok (.tuple #[.nilIface,.bool false]) w:=run_typeAssert_lacksB Tryz.underlying293 (by kernel_rfl) (by kernel_rfl) v b w
theorem zm (v:Value) (b:TypeId) (w:World):(Instr.typeAssert (.iface 171 v) b 294 true).run Tryz.prog w = .ok (.tuple #[.iface 171 v,.bool true]) w:=run_typeAssert_hasB Tryz.underlying294 (by kernel_rfl) v b w
theorem Ir (v:Value) (b:TypeId) (w:World):(Instr.typeAssert (.iface 171 v) b 297 true).run Tryz.prog w = .ok (.tuple #[.nilIface,.bool false]) w:=run_typeAssert_lacksB Tryz.underlying297 (by kernel_rfl) (by kernel_rfl) v b w
theorem mL (h : Value) (w : World) : (Go.method 470 171 h "Unwrap").run Tryz.prog w = .ok (246, h) w := by kernel_rfl
theorem Ac (k:Int) (b v1 v2 v3:Value) (w:World) :
  Calls Tryz.prog 144 #[.iface 184 (.int .i64 k),b,.agg #[v1,v2,v3],.iface 286 (.agg #[.pointer (some ⟨2,188,none⟩)])] w fun e w'=>e = .returned (.bool false)∧Below w.heap.size w w':=by
 have d := @run_callFunc_extern Tryz.prog 145 _ ReflectliteType.typeOf Tryz.func145 (by kernel_rfl) (by kernel_rfl) (by kernel_rfl) (by kernel_rfl)
 have i := @run_callFunc_extern Tryz.prog 257 _ (ReflectliteType.relation "AssignableTo" ReflectliteType.assignableTo) Tryz.func257 (by kernel_rfl) (by kernel_rfl) (by kernel_rfl) (by kernel_rfl)
 have j:=zJ
 have l:=iE
 have m:=yX
 have a1:=Ji
 have a2:=Is
 have a3:=It
 go_enter Tryz.func144,Tryz.ntmps144
 go_wp2
 refine wp_loop_rounds 1 ?_
 rw [rounds_succ]
 go_wp2
 go_ret
 exact ⟨rfl,(Below.refl _ w).alloc (af _) _⟩
theorem vA (e:Addr) (k:Int) (w:World) (d:w.cell? ⟨e.block,e.off,none⟩=some (.int .i64 k)) (h2:w.cell? ⟨e.block,e.off+2,none⟩=some .nilIface) (he:e.spot=none) :
  Calls Tryz.prog 246 #[.pointer (some e)] w fun r w'=>r = .returned (.slice (some ⟨w.heap.size,0,none⟩) 1 1)∧w'=w.alloc (.cells #[.iface 184 (.int .i64 k)] 128):=by
 obtain ⟨b,o,s⟩:=e
 obtain rfl:s=none:=he
 go_enter Tryz.func246,Tryz.ntmps246
 go_wp2
 go_ret
 exact ⟨rfl,rfl⟩
theorem xz (b:Nat) (k n:Int) (l v1 v2 v3:Value) (w:World) (i:w.heap[b]?=some (.cells #[.int .i64 k,.int .i64 n,.nilIface] 186 (0,0))) :
  Calls Tryz.prog 144 #[.iface 171 (.pointer (some ⟨b,0,none⟩)),l,.agg #[v1,v2,v3],.iface 286 (.agg #[.pointer (some ⟨2,188,none⟩)])] w fun e w'=>e = .returned (.bool false)∧Below w.heap.size w w':=by
 have m := @run_callFunc_extern Tryz.prog 145 _ ReflectliteType.typeOf Tryz.func145 (by kernel_rfl) (by kernel_rfl) (by kernel_rfl) (by kernel_rfl)
 have o := @run_callFunc_extern Tryz.prog 257 _ (ReflectliteType.relation "AssignableTo" ReflectliteType.assignableTo) Tryz.func257 (by kernel_rfl) (by kernel_rfl) (by kernel_rfl) (by kernel_rfl)
 have q:=zK
 have r:=iE
 have s:=sm
 have a1:=Iq
 have a2:=DS
 have a3:=zm
 have u:=mL
 have d:=(cm.1 i).1
 go_enter Tryz.func144,Tryz.ntmps144
 go_wp2
 refine wp_loop_rounds 1 ?_
 rw [rounds_succ]
 go_wp2_with (go_at_call 246;refine (vA ⟨b,0,none⟩ k _ (ae _ b 0 _ _ _ ((Below.heap_alloc _ _ _ d).trans i)) (ae _ b 2 _ _ _ ((Below.heap_alloc _ _ _ d).trans i)) rfl).mono ?_;rintro e w' ⟨rfl,rfl⟩)
 refine wp_loop_rounds 2 ?_
 rw [rounds_succ]
 go_wp2_with (go_at_call 144;refine (Ac k _ _ _ _ _).mono ?_;rintro e w1 ⟨rfl,j⟩)
 rw [rounds_succ]
 go_wp2
 go_ret
 exact ⟨rfl,(((Below.refl _ w).alloc (af _) _).alloc (by simp) _).trans (j.mono (by simp <;> omega))⟩
theorem G7 (b:Nat) (k n:Int) (t:Addr) (w:World) (d:w.heap[b]?=some (.cells #[.int .i64 k,.int .i64 n,.nilIface] 186 (0,0))) (i:w.cell? ⟨0,0,none⟩=some (.iface 286 (.agg #[.pointer (some ⟨2,128,none⟩)]))) :
  Calls Tryz.prog 104 #[.iface 171 (.pointer (some ⟨b,0,none⟩)),.iface 189 (.pointer (some t))] w fun ev w'=>ev = .returned (.bool false)∧Below w.heap.size w w':=by
 have u := @run_callFunc_extern Tryz.prog 141 _ (fun args=>ReflectliteValue.unpack (args.getD 0 (.tuple #[]))) Tryz.func141 (by kernel_rfl) (by kernel_rfl) (by kernel_rfl) (by kernel_rfl)
 have x := @run_callFunc_extern Tryz.prog 142 _ (ReflectliteValue.methodAny (ReflectliteValue.valueError "reflectlite.Value.Type" 0) (fun t _ _ _ => ReflectliteType.toType t)) Tryz.func142 (by kernel_rfl) (by kernel_rfl) (by kernel_rfl) (by kernel_rfl)
 have y := @run_callFunc_extern Tryz.prog 143 _ (ReflectliteValue.method (ReflectliteValue.valueError "reflectlite.Value.IsNil" 0) ReflectliteValue.isNil) Tryz.func143 (by kernel_rfl) (by kernel_rfl) (by kernel_rfl) (by kernel_rfl)
 have B := @run_callFunc_extern Tryz.prog 237 _ (ReflectliteType.abiMethod fun t=>do pure (.int .u8 (←Rtype.kind t))) Tryz.func237 (by kernel_rfl) (by kernel_rfl) (by kernel_rfl) (by kernel_rfl)
 have C := @run_callFunc_extern Tryz.prog 259 _ (ReflectliteType.method ReflectliteType.elem) Tryz.func259 (by kernel_rfl) (by kernel_rfl) (by kernel_rfl) (by kernel_rfl)
 have D := @run_callFunc_extern Tryz.prog 260 _ (ReflectliteType.relation "Implements" ReflectliteType.implements_) Tryz.func260 (by kernel_rfl) (by kernel_rfl) (by kernel_rfl) (by kernel_rfl)
 have E := @run_callFunc_extern Tryz.prog 145 _ ReflectliteType.typeOf Tryz.func145 (by kernel_rfl) (by kernel_rfl) (by kernel_rfl) (by kernel_rfl)
 have F := @run_callFunc_extern Tryz.prog 257 _ (ReflectliteType.relation "AssignableTo" ReflectliteType.assignableTo) Tryz.func257 (by kernel_rfl) (by kernel_rfl) (by kernel_rfl) (by kernel_rfl)
 have G := @run_callFunc_extern Tryz.prog 183 _ (ReflectliteValue.method (ReflectliteValue.valueError "reflectlite.Value.Elem" 0) ReflectliteValue.elem) Tryz.func183 (by kernel_rfl) (by kernel_rfl) (by kernel_rfl) (by kernel_rfl)
 have I := @run_callFunc_extern Tryz.prog 184 _ ReflectliteValue.set Tryz.func184 (by kernel_rfl) (by kernel_rfl) (by kernel_rfl) (by kernel_rfl)
 have J:=zL
 have M:=iE
 have a25:=p7
 have v25:=xi
 have f6:=yJ
 have f7:=GW
 have N:=rQ
 have O:=rP
 have Q:=mu
 have o:=F0
 have q:=Ip
 have r:=FM
 have i25:=um
 have n8:=DQ ⟨w.heap.size,0,none⟩ t ((w.alloc (.cells #[.pointer (some t)] 189)).alloc (.cells #[.pointer (some ⟨2,189,none⟩),.pointer (some ⟨w.heap.size,0,none⟩),.int .u64 150] 232)) (by simp)
 have j:0<w.heap.size:=fU i
 have s:((w.alloc (.cells #[.pointer (some t)] 189)).alloc (.cells #[.pointer (some ⟨2,189,none⟩),.pointer (some ⟨w.heap.size,0,none⟩),.int .u64 150] 232)).cell? ⟨0,0,none⟩=some (.iface 286 (.agg #[.pointer (some ⟨2,128,none⟩)])):=by
  rw [bU _ _ ⟨0,0,none⟩ (by simp <;> omega),bU _ _ ⟨0,0,none⟩ j];exact i
 have l:=(cm.1 d).1
 go_enter Tryz.func104,Tryz.ntmps104
 go_wp2_with (go_at_call 144;refine (xz b k n _ _ _ _ _ (((Below.heap_alloc _ _ _ (by simp <;> omega)).trans (Below.heap_alloc _ _ _ l)).trans d)).mono ?_;rintro e w1 ⟨rfl,m⟩)
 go_ret
 exact ⟨rfl,(((Below.refl _ w).alloc (af _) _).alloc (by simp) _).trans (m.mono (by simp <;> omega))⟩
end Go.Proofs.YtkkfmkhbdoeglabGreatDoor
