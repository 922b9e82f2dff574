/- A part of what is proved here: lemmas and contracts of single functions. No condition but those that each names. -/
import Derived.Test.YtkkfmkhbdoeglaaGreatDoorG00
import Derived.Test.YtkkfmkhbdoeglaaGreatDoorG11
set_option maxHeartbeats 4000000
set_option maxRecDepth 100000
namespace Go.Proofs.YtkkfmkhbdoeglaaGreatDoor
open Go.RowKit Go.Extern.Stop Go.Stop Go.Extern
theorem zh (v:Value) (w:World):(ReflectliteType.typeOf #[.iface 160 v]).run Tryz.prog w = .ok (.iface 257 (.agg #[.pointer (some ⟨2,160,none⟩)])) w:=by kernel_rfl
theorem yq (w : World) : (ReflectliteType.relation "AssignableTo" ReflectliteType.assignableTo #[.agg #[.pointer (some ⟨2, 160, none⟩)], .iface 257 (.agg #[.pointer (some ⟨2, 168, none⟩)])]).run Tryz.prog w = .ok (.bool false) w := by kernel_rfl
theorem rT (w : World) : (ReflectliteType.relation "AssignableTo" ReflectliteType.assignableTo #[.agg #[.pointer (some ⟨2, 114, none⟩)], .iface 257 (.agg #[.pointer (some ⟨2, 168, none⟩)])]).run Tryz.prog w = .ok (.bool false) w := by kernel_rfl
theorem IP (v:Value) (b:TypeId) (w:World):(Instr.typeAssert (.iface 160 v) b 261 true).run Tryz.prog w = .ok (.tuple #[.nilIface,.bool false]) w:=run_typeAssert_lacksB Tryz.underlying261 (by kernel_rfl) (by kernel_rfl) v b w
theorem Hp (v:Value) (b:TypeId) (w:World):(Instr.typeAssert (.iface 160 v) b 264 true).run Tryz.prog w = .ok (.tuple #[.nilIface,.bool false]) w:=run_typeAssert_lacksB Tryz.underlying264 (by kernel_rfl) (by kernel_rfl) v b w
theorem Hq (v:Value) (b:TypeId) (w:World):(Instr.typeAssert (.iface 160 v) b 265 true).run Tryz.prog w = .ok (.tuple #[.nilIface,.bool false]) w:=run_typeAssert_lacksB Tryz.underlying265 (by kernel_rfl) (by kernel_rfl) v b w
theorem IQ (v:Value) (b:TypeId) (w:World):(Instr.typeAssert (.iface 160 v) b 268 true).run Tryz.prog w = .ok (.tuple #[.nilIface,.bool false]) w:=run_typeAssert_lacksB Tryz.underlying268 (by kernel_rfl) (by kernel_rfl) v b w
theorem Hn (v:Value) (b:TypeId) (w:World):(Instr.typeAssert (.iface 114 v) b 261 true).run Tryz.prog w = .ok (.tuple #[.nilIface,.bool false]) w:=run_typeAssert_lacksB Tryz.underlying261 (by kernel_rfl) (by kernel_rfl) v b w
theorem Di (v:Value) (b:TypeId) (w:World):(Instr.typeAssert (.iface 114 v) b 264 true).run Tryz.prog w = .ok (.tuple #[.nilIface,.bool false]) w:=run_typeAssert_lacksB Tryz.underlying264 (by kernel_rfl) (by kernel_rfl) v b w
theorem yL (v:Value) (b:TypeId) (w:World):(Instr.typeAssert (.iface 114 v) b 265 true).run Tryz.prog w = .ok (.tuple #[.iface 114 v,.bool true]) w:=run_typeAssert_hasB Tryz.underlying265 (by kernel_rfl) v b w
theorem Ho (v:Value) (b:TypeId) (w:World):(Instr.typeAssert (.iface 114 v) b 268 true).run Tryz.prog w = .ok (.tuple #[.nilIface,.bool false]) w:=run_typeAssert_lacksB Tryz.underlying268 (by kernel_rfl) (by kernel_rfl) v b w
theorem mq (h : Value) (w : World) : (Go.method 433 114 h "Unwrap").run Tryz.prog w = .ok (196, h) w := by kernel_rfl
theorem zE (k:Int) (b v1 v2 v3:Value) (w:World) :
  Calls Tryz.prog 126 #[.iface 160 (.int .i64 k),b,.agg #[v1,v2,v3],.iface 257 (.agg #[.pointer (some ⟨2,168,none⟩)])] w fun e w'=>e = .returned (.bool false)∧Below w.heap.size w w':=by
 have d := @run_callFunc_extern Tryz.prog 127 _ ReflectliteType.typeOf Tryz.func127 (by kernel_rfl) (by kernel_rfl) (by kernel_rfl) (by kernel_rfl)
 have i := @run_callFunc_extern Tryz.prog 214 _ (ReflectliteType.relation "AssignableTo" ReflectliteType.assignableTo) Tryz.func214 (by kernel_rfl) (by kernel_rfl) (by kernel_rfl) (by kernel_rfl)
 have j:=zh
 have l:=iB
 have m:=yq
 have a1:=IP
 have a2:=Hp
 have a3:=Hq
 go_enter Tryz.func126,Tryz.ntmps126
 go_wp2
 refine wp_loop_rounds 1 ?_
 rw [rounds_succ]
 go_wp2
 go_ret
 exact ⟨rfl,(Below.refl _ w).alloc (ah _) _⟩
theorem uW (e:Addr) (k:Int) (w:World) (d:w.cell? ⟨e.block,e.off,none⟩=some (.int .i64 k)) (h2:w.cell? ⟨e.block,e.off+2,none⟩=some .nilIface) (he:e.spot=none) :
  Calls Tryz.prog 196 #[.pointer (some e)] w fun r w'=>r = .returned (.slice (some ⟨w.heap.size,0,none⟩) 1 1)∧w'=w.alloc (.cells #[.iface 160 (.int .i64 k)] 101):=by
 obtain ⟨b,o,s⟩:=e
 obtain rfl:s=none:=he
 go_enter Tryz.func196,Tryz.ntmps196
 go_wp2
 go_ret
 exact ⟨rfl,rfl⟩
theorem wQ (b:Nat) (k n:Int) (l v1 v2 v3:Value) (w:World) (i:w.heap[b]?=some (.cells #[.int .i64 k,.int .i64 n,.nilIface] 166 (0,0))) :
  Calls Tryz.prog 126 #[.iface 114 (.pointer (some ⟨b,0,none⟩)),l,.agg #[v1,v2,v3],.iface 257 (.agg #[.pointer (some ⟨2,168,none⟩)])] w fun e w'=>e = .returned (.bool false)∧Below w.heap.size w w':=by
 have m := @run_callFunc_extern Tryz.prog 127 _ ReflectliteType.typeOf Tryz.func127 (by kernel_rfl) (by kernel_rfl) (by kernel_rfl) (by kernel_rfl)
 have o := @run_callFunc_extern Tryz.prog 214 _ (ReflectliteType.relation "AssignableTo" ReflectliteType.assignableTo) Tryz.func214 (by kernel_rfl) (by kernel_rfl) (by kernel_rfl) (by kernel_rfl)
 have q:=zi
 have r:=iB
 have s:=rT
 have a1:=Hn
 have a2:=Di
 have a3:=yL
 have u:=mq
 have d:=(cx.1 i).1
 go_enter Tryz.func126,Tryz.ntmps126
 go_wp2
 refine wp_loop_rounds 1 ?_
 rw [rounds_succ]
 go_wp2_with (go_at_call 196;refine (uW ⟨b,0,none⟩ k _ (af _ b 0 _ _ _ ((Below.heap_alloc _ _ _ d).trans i)) (af _ b 2 _ _ _ ((Below.heap_alloc _ _ _ d).trans i)) rfl).mono ?_;rintro e w' ⟨rfl,rfl⟩)
 refine wp_loop_rounds 2 ?_
 rw [rounds_succ]
 go_wp2_with (go_at_call 126;refine (zE k _ _ _ _ _).mono ?_;rintro e w1 ⟨rfl,j⟩)
 rw [rounds_succ]
 go_wp2
 go_ret
 exact ⟨rfl,(((Below.refl _ w).alloc (ah _) _).alloc (by simp) _).trans (j.mono (by simp <;> omega))⟩
theorem Gp (b:Nat) (k n:Int) (t:Addr) (w:World) (d:w.heap[b]?=some (.cells #[.int .i64 k,.int .i64 n,.nilIface] 166 (0,0))) (i:w.cell? ⟨0,0,none⟩=some (.iface 257 (.agg #[.pointer (some ⟨2,101,none⟩)]))) :
  Calls Tryz.prog 86 #[.iface 114 (.pointer (some ⟨b,0,none⟩)),.iface 169 (.pointer (some t))] w fun ev w'=>ev = .returned (.bool false)∧Below w.heap.size w w':=by
 have u := @run_callFunc_extern Tryz.prog 123 _ (fun args=>ReflectliteValue.unpack (args.getD 0 (.tuple #[]))) Tryz.func123 (by kernel_rfl) (by kernel_rfl) (by kernel_rfl) (by kernel_rfl)
 have x := @run_callFunc_extern Tryz.prog 124 _ (ReflectliteValue.methodAny (ReflectliteValue.valueError "reflectlite.Value.Type" 0) (fun t _ _ _ => ReflectliteType.toType t)) Tryz.func124 (by kernel_rfl) (by kernel_rfl) (by kernel_rfl) (by kernel_rfl)
 have y := @run_callFunc_extern Tryz.prog 125 _ (ReflectliteValue.method (ReflectliteValue.valueError "reflectlite.Value.IsNil" 0) ReflectliteValue.isNil) Tryz.func125 (by kernel_rfl) (by kernel_rfl) (by kernel_rfl) (by kernel_rfl)
 have B := @run_callFunc_extern Tryz.prog 191 _ (ReflectliteType.abiMethod fun t=>do pure (.int .u8 (←Rtype.kind t))) Tryz.func191 (by kernel_rfl) (by kernel_rfl) (by kernel_rfl) (by kernel_rfl)
 have C := @run_callFunc_extern Tryz.prog 216 _ (ReflectliteType.method ReflectliteType.elem) Tryz.func216 (by kernel_rfl) (by kernel_rfl) (by kernel_rfl) (by kernel_rfl)
 have D := @run_callFunc_extern Tryz.prog 217 _ (ReflectliteType.relation "Implements" ReflectliteType.implements_) Tryz.func217 (by kernel_rfl) (by kernel_rfl) (by kernel_rfl) (by kernel_rfl)
 have E := @run_callFunc_extern Tryz.prog 127 _ ReflectliteType.typeOf Tryz.func127 (by kernel_rfl) (by kernel_rfl) (by kernel_rfl) (by kernel_rfl)
 have F := @run_callFunc_extern Tryz.prog 214 _ (ReflectliteType.relation "AssignableTo" ReflectliteType.assignableTo) Tryz.func214 (by kernel_rfl) (by kernel_rfl) (by kernel_rfl) (by kernel_rfl)
 have G := @run_callFunc_extern Tryz.prog 149 _ (ReflectliteValue.method (ReflectliteValue.valueError "reflectlite.Value.Elem" 0) ReflectliteValue.elem) Tryz.func149 (by kernel_rfl) (by kernel_rfl) (by kernel_rfl) (by kernel_rfl)
 have I := @run_callFunc_extern Tryz.prog 150 _ ReflectliteValue.set Tryz.func150 (by kernel_rfl) (by kernel_rfl) (by kernel_rfl) (by kernel_rfl)
 have J:=zj
 have M:=iB
 have a25:=pT
 have v25:=wH
 have f6:=yf
 have f7:=Gg
 have N:=rI
 have O:=rH
 have Q:=me
 have o:=Fl
 have q:=Hl
 have r:=E8
 have i25:=tQ
 have n8:=Dg ⟨w.heap.size,0,none⟩ t ((w.alloc (.cells #[.pointer (some t)] 169)).alloc (.cells #[.pointer (some ⟨2,169,none⟩),.pointer (some ⟨w.heap.size,0,none⟩),.int .u64 150] 219)) (by simp)
 have j:0<w.heap.size:=fP i
 have s:((w.alloc (.cells #[.pointer (some t)] 169)).alloc (.cells #[.pointer (some ⟨2,169,none⟩),.pointer (some ⟨w.heap.size,0,none⟩),.int .u64 150] 219)).cell? ⟨0,0,none⟩=some (.iface 257 (.agg #[.pointer (some ⟨2,101,none⟩)])):=by
  rw [bW _ _ ⟨0,0,none⟩ (by simp <;> omega),bW _ _ ⟨0,0,none⟩ j];exact i
 have l:=(cx.1 d).1
 go_enter Tryz.func86,Tryz.ntmps86
 go_wp2_with (go_at_call 126;refine (wQ b k n _ _ _ _ _ (((Below.heap_alloc _ _ _ (by simp <;> omega)).trans (Below.heap_alloc _ _ _ l)).trans d)).mono ?_;rintro e w1 ⟨rfl,m⟩)
 go_ret
 exact ⟨rfl,(((Below.refl _ w).alloc (ah _) _).alloc (by simp) _).trans (m.mono (by simp <;> omega))⟩
end Go.Proofs.YtkkfmkhbdoeglaaGreatDoor
