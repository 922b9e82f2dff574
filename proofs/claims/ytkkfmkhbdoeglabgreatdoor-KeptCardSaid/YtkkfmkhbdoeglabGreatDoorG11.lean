/- A part of what is proved here: lemmas and contracts of single functions. No condition but those that each names. -/
import Derived.Test.YtkkfmkhbdoeglabGreatDoorG00
import Derived.LaidEql
import Derived.RowKitTokens
import Derived.Stop.Asserts
import Derived.Test.YtkkfmkhbdoeglabGreatDoorG02
set_option maxHeartbeats 4000000
namespace Go.Proofs.YtkkfmkhbdoeglabGreatDoor
open Go.RowKit Go.Extern.Stop Go.Stop Go.Extern
theorem Js (z:Sem Value) (f:TypeId→Addr→Nat→Nat→Sem Value) (v:Value) :
  ReflectliteValue.method z f #[v]=(do match ←ReflectliteValue.parts v with | none=>z | some (t,a,b)=>f t a b (b%32)):=rfl
theorem JG (v x:Value):ReflectliteValue.set #[v,x]=(do
  let (some (dst,a,d),some (src,b,_)):=(←ReflectliteValue.parts v,←ReflectliteValue.parts x)
   | unsupported (.noEntry "extern/(internal/reflectlite.Value).Set.zeroValue")
  if d / ReflectliteValue.flagAddr % 2 == 0 then unsupported (.noEntry "extern/(internal/reflectlite.Value).Set.unaddressable")
  let val ←loadVar src b
  if ←Rtype.directlyAssignable dst src then storeVar dst a val
  else if ←Rtype.implements dst src then
   if (←Rtype.kind src)==20 then
    match val with
    | .nilIface => unsupported (.noEntry "extern/reflectlite: a nil value of one interface type handed on as a value of another")
    | _=>storeVar dst a val
   else storeVar dst a (.iface src val)
  else panicString ("reflectlite.Set: value of type " ++ (← Rtype.spelt src) ++ " is not assignable to type " ++ (← Rtype.spelt dst))
  pure (.tuple #[])):=rfl
theorem Fv (t:Addr) (w:World):(ReflectliteValue.unpack (.iface 183 (.pointer (some t)))).run Tryz.prog w
  = .ok (.agg #[.pointer (some ⟨2,183,none⟩),.pointer (some ⟨w.heap.size,0,none⟩),.int .u64 150]) (w.alloc (.cells #[.pointer (some t)] 183)):=by kernel_rfl
theorem I3 (a : Addr) (w : World) : (ReflectliteValue.methodAny (ReflectliteValue.valueError "reflectlite.Value.Type" 0) (fun t _ _ _ => ReflectliteType.toType t) #[.agg #[.pointer (some ⟨2, 183, none⟩), .pointer (some a), .int .u64 150]]).run Tryz.prog w
  = .ok (.iface 286 (.agg #[.pointer (some ⟨2,183,none⟩)])) w:=by kernel_rfl
theorem IJ (w:World):((ReflectliteType.abiMethod fun t=>(fun a:Nat=>Value.int IntKind.u8 (a:Int)) <$> Rtype.kind t) #[.pointer (some ⟨2,183,none⟩)]).run Tryz.prog w = .ok (.int .u8 22) w:=by kernel_rfl
theorem Jh (w:World):((ReflectliteType.abiMethod fun t=>(fun a:Nat=>Value.int IntKind.u8 (a:Int)) <$> Rtype.kind t) #[.pointer (some ⟨2,171,none⟩)]).run Tryz.prog w = .ok (.int .u8 22) w:=by kernel_rfl
theorem DV (a:Addr) (w:World):(ReflectliteValue.parts (.agg #[.pointer (some ⟨2,183,none⟩),.pointer (some a),.int .u64 150])).run Tryz.prog w = .ok (some (183,a,150)) w:=by kernel_rfl
theorem Hp (a p:Addr) (W:World) (ha:W.cell? a=some (.pointer (some p))) :
  (ReflectliteValue.method (ReflectliteValue.valueError "reflectlite.Value.IsNil" 0) ReflectliteValue.isNil #[.agg #[.pointer (some ⟨2, 183, none⟩), .pointer (some a), .int .u64 150]]).run Tryz.prog W = .ok (.bool false) W := by
 rw [Js]
 simp only [cn,DV,Result.andThen]
 simp [ReflectliteValue.isNil,loadVar,isAgg,underlying,Tryz.underlying183,ha,Result.andThen]
theorem IF (w:World):(ReflectliteType.method ReflectliteType.elem #[.agg #[.pointer (some ⟨2,183,none⟩)]]).run Tryz.prog w = .ok (.iface 286 (.agg #[.pointer (some ⟨2,171,none⟩)])) w:=by kernel_rfl
theorem AE (w : World) : (ReflectliteType.relation "Implements" ReflectliteType.implements_ #[.agg #[.pointer (some ⟨2, 171, none⟩)], .iface 286 (.agg #[.pointer (some ⟨2, 128, none⟩)])]).run Tryz.prog w = .ok (.bool true) w := by kernel_rfl
theorem zK (v:Value) (w:World):(ReflectliteType.typeOf #[.iface 171 v]).run Tryz.prog w = .ok (.iface 286 (.agg #[.pointer (some ⟨2,171,none⟩)])) w:=by kernel_rfl
theorem Ad (w : World) : (ReflectliteType.relation "AssignableTo" ReflectliteType.assignableTo #[.agg #[.pointer (some ⟨2, 171, none⟩)], .iface 286 (.agg #[.pointer (some ⟨2, 171, none⟩)])]).run Tryz.prog w = .ok (.bool true) w := by kernel_rfl
theorem GY (e:Addr) (w:World):(ReflectliteValue.unpack (.iface 171 (.pointer (some e)))).run Tryz.prog w
  = .ok (.agg #[.pointer (some ⟨2,171,none⟩),.pointer (some ⟨w.heap.size,0,none⟩),.int .u64 150]) (w.alloc (.cells #[.pointer (some e)] 171)):=by kernel_rfl
theorem FK (w:World):(Rtype.elem? 183).run Tryz.prog w = .ok (some 171) w:=by kernel_rfl
theorem JI (p:Addr) (w:World):(ReflectliteValue.mk 171 p ReflectliteValue.flagAddr).run Tryz.prog w = .ok (.agg #[.pointer (some ⟨2,171,none⟩),.pointer (some p),.int .u64 406]) w:=by kernel_rfl
theorem Hh (a p:Addr) (W:World) (ha:W.cell? a=some (.pointer (some p))) :
  (ReflectliteValue.method (ReflectliteValue.valueError "reflectlite.Value.Elem" 0) ReflectliteValue.elem #[.agg #[.pointer (some ⟨2, 183, none⟩), .pointer (some a), .int .u64 150]]).run Tryz.prog W
   = .ok (.agg #[.pointer (some ⟨2,171,none⟩),.pointer (some p),.int .u64 406]) W:=by
 rw [Js]
 simp only [cn,DV,Result.andThen]
 simp [ReflectliteValue.elem,loadVar,isAgg,underlying,Tryz.underlying183,ha,Result.andThen,FK,JI]
theorem Hz (a:Addr) (w:World):(ReflectliteValue.parts (.agg #[.pointer (some ⟨2,171,none⟩),.pointer (some a),.int .u64 406])).run Tryz.prog w = .ok (some (171,a,406)) w:=by kernel_rfl
theorem IV (a:Addr) (w:World):(ReflectliteValue.parts (.agg #[.pointer (some ⟨2,171,none⟩),.pointer (some a),.int .u64 150])).run Tryz.prog w = .ok (some (171,a,150)) w:=by kernel_rfl
theorem Hf (w:World):(Rtype.directlyAssignable 171 171).run Tryz.prog w = .ok true w:=by kernel_rfl
theorem JB (d b e:Addr) (gr:Value) (W:World) (i:W.cell? b=some (.pointer (some e))) (j:W.cell? d=some gr) (l:W.frozen? d=false) :
  (ReflectliteValue.set #[.agg #[.pointer (some ⟨2,171,none⟩),.pointer (some d),.int .u64 406],.agg #[.pointer (some ⟨2,171,none⟩),.pointer (some b),.int .u64 150]]).run Tryz.prog W
   = .ok (.tuple #[]) (W.setCell d (.pointer (some e))):=by
 rw [JG]
 simp only [cn,Hz,IV,Result.andThen]
 simp [ReflectliteValue.flagAddr,loadVar,isAgg,underlying,Tryz.underlying171,i,Result.andThen,Hf,storeVar,Value.cells,storeCells,Addr.add]
 rw [run_store Tryz.prog W d _ _ (by rfl)]
 simp [j,l]
theorem yJ (t:Addr) (w:World):(ReflectliteValue.unpack (.iface 189 (.pointer (some t)))).run Tryz.prog w
  = .ok (.agg #[.pointer (some ⟨2,189,none⟩),.pointer (some ⟨w.heap.size,0,none⟩),.int .u64 150]) (w.alloc (.cells #[.pointer (some t)] 189)):=by kernel_rfl
theorem GW (a : Addr) (w : World) : (ReflectliteValue.methodAny (ReflectliteValue.valueError "reflectlite.Value.Type" 0) (fun t _ _ _ => ReflectliteType.toType t) #[.agg #[.pointer (some ⟨2, 189, none⟩), .pointer (some a), .int .u64 150]]).run Tryz.prog w
  = .ok (.iface 286 (.agg #[.pointer (some ⟨2,189,none⟩)])) w:=by kernel_rfl
theorem F0 (w:World):((ReflectliteType.abiMethod fun t=>(fun a:Nat=>Value.int IntKind.u8 (a:Int)) <$> Rtype.kind t) #[.pointer (some ⟨2,189,none⟩)]).run Tryz.prog w = .ok (.int .u8 22) w:=by kernel_rfl
theorem Ip (w:World):((ReflectliteType.abiMethod fun t=>(fun a:Nat=>Value.int IntKind.u8 (a:Int)) <$> Rtype.kind t) #[.pointer (some ⟨2,188,none⟩)]).run Tryz.prog w = .ok (.int .u8 22) w:=by kernel_rfl
theorem DW (a:Addr) (w:World):(ReflectliteValue.parts (.agg #[.pointer (some ⟨2,189,none⟩),.pointer (some a),.int .u64 150])).run Tryz.prog w = .ok (some (189,a,150)) w:=by kernel_rfl
theorem DQ (a p:Addr) (W:World) (ha:W.cell? a=some (.pointer (some p))) :
  (ReflectliteValue.method (ReflectliteValue.valueError "reflectlite.Value.IsNil" 0) ReflectliteValue.isNil #[.agg #[.pointer (some ⟨2, 189, none⟩), .pointer (some a), .int .u64 150]]).run Tryz.prog W = .ok (.bool false) W := by
 rw [Js]
 simp only [cn,DW,Result.andThen]
 simp [ReflectliteValue.isNil,loadVar,isAgg,underlying,Tryz.underlying189,ha,Result.andThen]
theorem FM (w:World):(ReflectliteType.method ReflectliteType.elem #[.agg #[.pointer (some ⟨2,189,none⟩)]]).run Tryz.prog w = .ok (.iface 286 (.agg #[.pointer (some ⟨2,188,none⟩)])) w:=by kernel_rfl
theorem um (w : World) : (ReflectliteType.relation "Implements" ReflectliteType.implements_ #[.agg #[.pointer (some ⟨2, 188, none⟩)], .iface 286 (.agg #[.pointer (some ⟨2, 128, none⟩)])]).run Tryz.prog w = .ok (.bool true) w := by kernel_rfl
theorem zL (v:Value) (w:World):(ReflectliteType.typeOf #[.iface 188 v]).run Tryz.prog w = .ok (.iface 286 (.agg #[.pointer (some ⟨2,188,none⟩)])) w:=by kernel_rfl
theorem p7 (w : World) : (ReflectliteType.relation "AssignableTo" ReflectliteType.assignableTo #[.agg #[.pointer (some ⟨2, 188, none⟩)], .iface 286 (.agg #[.pointer (some ⟨2, 188, none⟩)])]).run Tryz.prog w = .ok (.bool true) w := by kernel_rfl
theorem xi (e:Addr) (w:World):(ReflectliteValue.unpack (.iface 188 (.pointer (some e)))).run Tryz.prog w
  = .ok (.agg #[.pointer (some ⟨2,188,none⟩),.pointer (some ⟨w.heap.size,0,none⟩),.int .u64 150]) (w.alloc (.cells #[.pointer (some e)] 188)):=by kernel_rfl
theorem FL (w:World):(Rtype.elem? 189).run Tryz.prog w = .ok (some 188) w:=by kernel_rfl
theorem JJ (p:Addr) (w:World):(ReflectliteValue.mk 188 p ReflectliteValue.flagAddr).run Tryz.prog w = .ok (.agg #[.pointer (some ⟨2,188,none⟩),.pointer (some p),.int .u64 406]) w:=by kernel_rfl
theorem Hj (a p:Addr) (W:World) (ha:W.cell? a=some (.pointer (some p))) :
  (ReflectliteValue.method (ReflectliteValue.valueError "reflectlite.Value.Elem" 0) ReflectliteValue.elem #[.agg #[.pointer (some ⟨2, 189, none⟩), .pointer (some a), .int .u64 150]]).run Tryz.prog W
   = .ok (.agg #[.pointer (some ⟨2,188,none⟩),.pointer (some p),.int .u64 406]) W:=by
 rw [Js]
 simp only [cn,DW,Result.andThen]
 simp [ReflectliteValue.elem,loadVar,isAgg,underlying,Tryz.underlying189,ha,Result.andThen,FL,JJ]
theorem HI (a:Addr) (w:World):(ReflectliteValue.parts (.agg #[.pointer (some ⟨2,188,none⟩),.pointer (some a),.int .u64 406])).run Tryz.prog w = .ok (some (188,a,406)) w:=by kernel_rfl
theorem IW (a:Addr) (w:World):(ReflectliteValue.parts (.agg #[.pointer (some ⟨2,188,none⟩),.pointer (some a),.int .u64 150])).run Tryz.prog w = .ok (some (188,a,150)) w:=by kernel_rfl
theorem Hg (w:World):(Rtype.directlyAssignable 188 188).run Tryz.prog w = .ok true w:=by kernel_rfl
theorem I0 (d b e:Addr) (gr:Value) (W:World) (i:W.cell? b=some (.pointer (some e))) (j:W.cell? d=some gr) (l:W.frozen? d=false) :
  (ReflectliteValue.set #[.agg #[.pointer (some ⟨2,188,none⟩),.pointer (some d),.int .u64 406],.agg #[.pointer (some ⟨2,188,none⟩),.pointer (some b),.int .u64 150]]).run Tryz.prog W
   = .ok (.tuple #[]) (W.setCell d (.pointer (some e))):=by
 rw [JG]
 simp only [cn,HI,IW,Result.andThen]
 simp [ReflectliteValue.flagAddr,loadVar,isAgg,underlying,Tryz.underlying188,i,Result.andThen,Hg,storeVar,Value.cells,storeCells,Addr.add]
 rw [run_store Tryz.prog W d _ _ (by rfl)]
 simp [j,l]
theorem rQ (h : Value) (w : World) : (Go.method 470 286 (.agg #[h]) "Kind").run Tryz.prog w = .ok (237, h) w := by kernel_rfl
theorem rP (h : Value) (w : World) : (Go.method 470 286 (.agg #[h]) "Elem").run Tryz.prog w = .ok (259, .agg #[h]) w := by kernel_rfl
theorem mu (h : Value) (w : World) : (Go.method 470 286 (.agg #[h]) "Implements").run Tryz.prog w = .ok (260, .agg #[h]) w := by kernel_rfl
theorem iE (h : Value) (w : World) : (Go.method 470 286 (.agg #[h]) "AssignableTo").run Tryz.prog w = .ok (257, .agg #[h]) w := by kernel_rfl
def tC (e t:Addr) (w:World):World :=
 ((((w.alloc (.cells #[.pointer (some t)] 183)).alloc (.cells #[.pointer (some ⟨2,183,none⟩),.pointer (some ⟨w.heap.size,0,none⟩),.int .u64 150] 232)).alloc (.cells #[.pointer (some ⟨2,183,none⟩),.pointer (some ⟨w.heap.size,0,none⟩),.int .u64 150] 232)).alloc (.cells #[.pointer (some e)] 171)).setCell t (.pointer (some e))
theorem uY (e t:Addr) (gr:Value) (w:World) (i:w.cell? ⟨0,0,none⟩=some (.iface 286 (.agg #[.pointer (some ⟨2,128,none⟩)]))) (b:w.cell? t=some gr) (j:w.frozen? t=false) :
  Calls Tryz.prog 104 #[.iface 171 (.pointer (some e)),.iface 183 (.pointer (some t))] w fun ev w'=>ev = .returned (.bool true)∧w'=tC e t w:=by
 have s := @run_callFunc_extern Tryz.prog 141 _ (fun args=>ReflectliteValue.unpack (args.getD 0 (.tuple #[]))) Tryz.func141 (by kernel_rfl) (by kernel_rfl) (by kernel_rfl) (by kernel_rfl)
 have u := @run_callFunc_extern Tryz.prog 142 _ (ReflectliteValue.methodAny (ReflectliteValue.valueError "reflectlite.Value.Type" 0) (fun t _ _ _ => ReflectliteType.toType t)) Tryz.func142 (by kernel_rfl) (by kernel_rfl) (by kernel_rfl) (by kernel_rfl)
 have x := @run_callFunc_extern Tryz.prog 143 _ (ReflectliteValue.method (ReflectliteValue.valueError "reflectlite.Value.IsNil" 0) ReflectliteValue.isNil) Tryz.func143 (by kernel_rfl) (by kernel_rfl) (by kernel_rfl) (by kernel_rfl)
 have y := @run_callFunc_extern Tryz.prog 237 _ (ReflectliteType.abiMethod fun t=>do pure (.int .u8 (←Rtype.kind t))) Tryz.func237 (by kernel_rfl) (by kernel_rfl) (by kernel_rfl) (by kernel_rfl)
 have B := @run_callFunc_extern Tryz.prog 259 _ (ReflectliteType.method ReflectliteType.elem) Tryz.func259 (by kernel_rfl) (by kernel_rfl) (by kernel_rfl) (by kernel_rfl)
 have C := @run_callFunc_extern Tryz.prog 260 _ (ReflectliteType.relation "Implements" ReflectliteType.implements_) Tryz.func260 (by kernel_rfl) (by kernel_rfl) (by kernel_rfl) (by kernel_rfl)
 have D := @run_callFunc_extern Tryz.prog 145 _ ReflectliteType.typeOf Tryz.func145 (by kernel_rfl) (by kernel_rfl) (by kernel_rfl) (by kernel_rfl)
 have E := @run_callFunc_extern Tryz.prog 257 _ (ReflectliteType.relation "AssignableTo" ReflectliteType.assignableTo) Tryz.func257 (by kernel_rfl) (by kernel_rfl) (by kernel_rfl) (by kernel_rfl)
 have F := @run_callFunc_extern Tryz.prog 183 _ (ReflectliteValue.method (ReflectliteValue.valueError "reflectlite.Value.Elem" 0) ReflectliteValue.elem) Tryz.func183 (by kernel_rfl) (by kernel_rfl) (by kernel_rfl) (by kernel_rfl)
 have G := @run_callFunc_extern Tryz.prog 184 _ ReflectliteValue.set Tryz.func184 (by kernel_rfl) (by kernel_rfl) (by kernel_rfl) (by kernel_rfl)
 have I:=zK
 have J:=iE
 have a25:=Ad
 have v25:=GY
 have f6:=Fv
 have f7:=I3
 have M:=rQ
 have N:=rP
 have O:=mu
 have m:=IJ
 have o:=Jh
 have q:=IF
 have i25:=AE
 have n8:=Hp ⟨w.heap.size,0,none⟩ t ((w.alloc (.cells #[.pointer (some t)] 183)).alloc (.cells #[.pointer (some ⟨2,183,none⟩),.pointer (some ⟨w.heap.size,0,none⟩),.int .u64 150] 232)) (by simp)
 have l:0<w.heap.size:=fU i
 have r:((w.alloc (.cells #[.pointer (some t)] 183)).alloc (.cells #[.pointer (some ⟨2,183,none⟩),.pointer (some ⟨w.heap.size,0,none⟩),.int .u64 150] 232)).cell? ⟨0,0,none⟩=some (.iface 286 (.agg #[.pointer (some ⟨2,128,none⟩)])):=by
  rw [bU _ _ ⟨0,0,none⟩ (by simp <;> omega),bU _ _ ⟨0,0,none⟩ l];exact i
 have d:t.block<w.heap.size:=fU b
 have el:=Hh ⟨w.heap.size,0,none⟩ t (((w.alloc (.cells #[.pointer (some t)] 183)).alloc (.cells #[.pointer (some ⟨2,183,none⟩),.pointer (some ⟨w.heap.size,0,none⟩),.int .u64 150] 232)).alloc (.cells #[.pointer (some ⟨2,183,none⟩),.pointer (some ⟨w.heap.size,0,none⟩),.int .u64 150] 232)) (by rw [bU _ _ ⟨w.heap.size,0,none⟩ (by simp <;> omega)];simp)
 have st:=JB t ⟨w.heap.size+1+1+1,0,none⟩ e gr ((((w.alloc (.cells #[.pointer (some t)] 183)).alloc (.cells #[.pointer (some ⟨2,183,none⟩),.pointer (some ⟨w.heap.size,0,none⟩),.int .u64 150] 232)).alloc (.cells #[.pointer (some ⟨2,183,none⟩),.pointer (some ⟨w.heap.size,0,none⟩),.int .u64 150] 232)).alloc (.cells #[.pointer (some e)] 171))
  (by rw [World.cell?_alloc_at _ _ _ _ (by simp)];rfl)
  (by rw [bU _ _ t (by simp <;> omega),bU _ _ t (by simp <;> omega),bU _ _ t (by simp <;> omega),bU _ _ t d];exact b)
  (by rw [dz _ _ t (by simp <;> omega),dz _ _ t (by simp <;> omega),dz _ _ t (by simp <;> omega),dz _ _ t (fL d)];exact j)
 go_enter Tryz.func104,Tryz.ntmps104
 go_wp2
 refine wp_loop_rounds 1 ?_
 rw [rounds_succ]
 go_wp2
 go_ret
 exact ⟨rfl,rfl⟩
end Go.Proofs.YtkkfmkhbdoeglabGreatDoor
