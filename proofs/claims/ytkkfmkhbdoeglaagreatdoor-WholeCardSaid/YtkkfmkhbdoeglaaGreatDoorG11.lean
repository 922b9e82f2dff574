/- A part of what is proved here: lemmas and contracts of single functions. No condition but those that each names. -/
import Derived.Test.YtkkfmkhbdoeglaaGreatDoorG00
import Derived.LaidEql
import Derived.RowKitTokens
import Derived.Stop.Asserts
import Derived.Test.YtkkfmkhbdoeglaaGreatDoorG02
set_option maxHeartbeats 4000000
namespace Go.Proofs.YtkkfmkhbdoeglaaGreatDoor
open Go.RowKit Go.Extern.Stop Go.Stop Go.Extern
theorem I0 (z:Sem Value) (f:TypeId→Addr→Nat→Nat→Sem Value) (v:Value) :
  ReflectliteValue.method z f #[v]=(do match ←ReflectliteValue.parts v with | none=>z | some (t,a,b)=>f t a b (b%32)):=rfl
theorem Jb (v x:Value):ReflectliteValue.set #[v,x]=(do
  let (some (dst,a,d),some (src,b,_)):=(←ReflectliteValue.parts v,←ReflectliteValue.parts x)
   | unsupported (.noEntry "extern/(internal/reflectlite.Value).Set.zeroValue")
  if d / ReflectliteValue.flagAddr % 2 == 0 then unsupported (.noEntry "extern/(internal/reflectlite.Value).Set.unaddressable")
  let val ←loadVar src b
  if ←Rtype.directlyAssignable dst src then storeVar dst a val
  else if ←Rtype.implements dst src then
   if (←Rtype.kind src)==20 then
    match val with
    | .nilIface => unsupported (.noEntry "extern/reflectlite: a nil value of one interface type handed on as a value of another")
    | _=>storeVar dst a val
   else storeVar dst a (.iface src val)
  else panicString ("reflectlite.Set: value of type " ++ (← Rtype.spelt src) ++ " is not assignable to type " ++ (← Rtype.spelt dst))
  pure (.tuple #[])):=rfl
theorem EM (t:Addr) (w:World):(ReflectliteValue.unpack (.iface 164 (.pointer (some t)))).run Tryz.prog w
  = .ok (.agg #[.pointer (some ⟨2,164,none⟩),.pointer (some ⟨w.heap.size,0,none⟩),.int .u64 150]) (w.alloc (.cells #[.pointer (some t)] 164)):=by kernel_rfl
theorem Iz (a : Addr) (w : World) : (ReflectliteValue.methodAny (ReflectliteValue.valueError "reflectlite.Value.Type" 0) (fun t _ _ _ => ReflectliteType.toType t) #[.agg #[.pointer (some ⟨2, 164, none⟩), .pointer (some a), .int .u64 150]]).run Tryz.prog w
  = .ok (.iface 257 (.agg #[.pointer (some ⟨2,164,none⟩)])) w:=by kernel_rfl
theorem Ih (w:World):((ReflectliteType.abiMethod fun t=>(fun a:Nat=>Value.int IntKind.u8 (a:Int)) <$> Rtype.kind t) #[.pointer (some ⟨2,164,none⟩)]).run Tryz.prog w = .ok (.int .u8 22) w:=by kernel_rfl
theorem IN (w:World):((ReflectliteType.abiMethod fun t=>(fun a:Nat=>Value.int IntKind.u8 (a:Int)) <$> Rtype.kind t) #[.pointer (some ⟨2,114,none⟩)]).run Tryz.prog w = .ok (.int .u8 22) w:=by kernel_rfl
theorem Dl (a:Addr) (w:World):(ReflectliteValue.parts (.agg #[.pointer (some ⟨2,164,none⟩),.pointer (some a),.int .u64 150])).run Tryz.prog w = .ok (some (164,a,150)) w:=by kernel_rfl
theorem GO (a p:Addr) (W:World) (ha:W.cell? a=some (.pointer (some p))) :
  (ReflectliteValue.method (ReflectliteValue.valueError "reflectlite.Value.IsNil" 0) ReflectliteValue.isNil #[.agg #[.pointer (some ⟨2, 164, none⟩), .pointer (some a), .int .u64 150]]).run Tryz.prog W = .ok (.bool false) W := by
 rw [I0]
 simp only [bY,Dl,Result.andThen]
 simp [ReflectliteValue.isNil,loadVar,isAgg,underlying,Tryz.underlying164,ha,Result.andThen]
theorem Ib (w:World):(ReflectliteType.method ReflectliteType.elem #[.agg #[.pointer (some ⟨2,164,none⟩)]]).run Tryz.prog w = .ok (.iface 257 (.agg #[.pointer (some ⟨2,114,none⟩)])) w:=by kernel_rfl
theorem Ac (w : World) : (ReflectliteType.relation "Implements" ReflectliteType.implements_ #[.agg #[.pointer (some ⟨2, 114, none⟩)], .iface 257 (.agg #[.pointer (some ⟨2, 101, none⟩)])]).run Tryz.prog w = .ok (.bool true) w := by kernel_rfl
theorem zi (v:Value) (w:World):(ReflectliteType.typeOf #[.iface 114 v]).run Tryz.prog w = .ok (.iface 257 (.agg #[.pointer (some ⟨2,114,none⟩)])) w:=by kernel_rfl
theorem zF (w : World) : (ReflectliteType.relation "AssignableTo" ReflectliteType.assignableTo #[.agg #[.pointer (some ⟨2, 114, none⟩)], .iface 257 (.agg #[.pointer (some ⟨2, 114, none⟩)])]).run Tryz.prog w = .ok (.bool true) w := by kernel_rfl
theorem Gi (e:Addr) (w:World):(ReflectliteValue.unpack (.iface 114 (.pointer (some e)))).run Tryz.prog w
  = .ok (.agg #[.pointer (some ⟨2,114,none⟩),.pointer (some ⟨w.heap.size,0,none⟩),.int .u64 150]) (w.alloc (.cells #[.pointer (some e)] 114)):=by kernel_rfl
theorem E6 (w:World):(Rtype.elem? 164).run Tryz.prog w = .ok (some 114) w:=by kernel_rfl
theorem Jd (p:Addr) (w:World):(ReflectliteValue.mk 114 p ReflectliteValue.flagAddr).run Tryz.prog w = .ok (.agg #[.pointer (some ⟨2,114,none⟩),.pointer (some p),.int .u64 406]) w:=by kernel_rfl
theorem GD (a p:Addr) (W:World) (ha:W.cell? a=some (.pointer (some p))) :
  (ReflectliteValue.method (ReflectliteValue.valueError "reflectlite.Value.Elem" 0) ReflectliteValue.elem #[.agg #[.pointer (some ⟨2, 164, none⟩), .pointer (some a), .int .u64 150]]).run Tryz.prog W
   = .ok (.agg #[.pointer (some ⟨2,114,none⟩),.pointer (some p),.int .u64 406]) W:=by
 rw [I0]
 simp only [bY,Dl,Result.andThen]
 simp [ReflectliteValue.elem,loadVar,isAgg,underlying,Tryz.underlying164,ha,Result.andThen,E6,Jd]
theorem GY (a:Addr) (w:World):(ReflectliteValue.parts (.agg #[.pointer (some ⟨2,114,none⟩),.pointer (some a),.int .u64 406])).run Tryz.prog w = .ok (some (114,a,406)) w:=by kernel_rfl
theorem Is (a:Addr) (w:World):(ReflectliteValue.parts (.agg #[.pointer (some ⟨2,114,none⟩),.pointer (some a),.int .u64 150])).run Tryz.prog w = .ok (some (114,a,150)) w:=by kernel_rfl
theorem GB (w:World):(Rtype.directlyAssignable 114 114).run Tryz.prog w = .ok true w:=by kernel_rfl
theorem I6 (d b e:Addr) (fW:Value) (W:World) (i:W.cell? b=some (.pointer (some e))) (j:W.cell? d=some fW) (l:W.frozen? d=false) :
  (ReflectliteValue.set #[.agg #[.pointer (some ⟨2,114,none⟩),.pointer (some d),.int .u64 406],.agg #[.pointer (some ⟨2,114,none⟩),.pointer (some b),.int .u64 150]]).run Tryz.prog W
   = .ok (.tuple #[]) (W.setCell d (.pointer (some e))):=by
 rw [Jb]
 simp only [bY,GY,Is,Result.andThen]
 simp [ReflectliteValue.flagAddr,loadVar,isAgg,underlying,Tryz.underlying114,i,Result.andThen,GB,storeVar,Value.cells,storeCells,Addr.add]
 rw [run_store Tryz.prog W d _ _ (by rfl)]
 simp [j,l]
theorem yf (t:Addr) (w:World):(ReflectliteValue.unpack (.iface 169 (.pointer (some t)))).run Tryz.prog w
  = .ok (.agg #[.pointer (some ⟨2,169,none⟩),.pointer (some ⟨w.heap.size,0,none⟩),.int .u64 150]) (w.alloc (.cells #[.pointer (some t)] 169)):=by kernel_rfl
theorem Gg (a : Addr) (w : World) : (ReflectliteValue.methodAny (ReflectliteValue.valueError "reflectlite.Value.Type" 0) (fun t _ _ _ => ReflectliteType.toType t) #[.agg #[.pointer (some ⟨2, 169, none⟩), .pointer (some a), .int .u64 150]]).run Tryz.prog w
  = .ok (.iface 257 (.agg #[.pointer (some ⟨2,169,none⟩)])) w:=by kernel_rfl
theorem Fl (w:World):((ReflectliteType.abiMethod fun t=>(fun a:Nat=>Value.int IntKind.u8 (a:Int)) <$> Rtype.kind t) #[.pointer (some ⟨2,169,none⟩)]).run Tryz.prog w = .ok (.int .u8 22) w:=by kernel_rfl
theorem Hl (w:World):((ReflectliteType.abiMethod fun t=>(fun a:Nat=>Value.int IntKind.u8 (a:Int)) <$> Rtype.kind t) #[.pointer (some ⟨2,168,none⟩)]).run Tryz.prog w = .ok (.int .u8 22) w:=by kernel_rfl
theorem Dm (a:Addr) (w:World):(ReflectliteValue.parts (.agg #[.pointer (some ⟨2,169,none⟩),.pointer (some a),.int .u64 150])).run Tryz.prog w = .ok (some (169,a,150)) w:=by kernel_rfl
theorem Dg (a p:Addr) (W:World) (ha:W.cell? a=some (.pointer (some p))) :
  (ReflectliteValue.method (ReflectliteValue.valueError "reflectlite.Value.IsNil" 0) ReflectliteValue.isNil #[.agg #[.pointer (some ⟨2, 169, none⟩), .pointer (some a), .int .u64 150]]).run Tryz.prog W = .ok (.bool false) W := by
 rw [I0]
 simp only [bY,Dm,Result.andThen]
 simp [ReflectliteValue.isNil,loadVar,isAgg,underlying,Tryz.underlying169,ha,Result.andThen]
theorem E8 (w:World):(ReflectliteType.method ReflectliteType.elem #[.agg #[.pointer (some ⟨2,169,none⟩)]]).run Tryz.prog w = .ok (.iface 257 (.agg #[.pointer (some ⟨2,168,none⟩)])) w:=by kernel_rfl
theorem tQ (w : World) : (ReflectliteType.relation "Implements" ReflectliteType.implements_ #[.agg #[.pointer (some ⟨2, 168, none⟩)], .iface 257 (.agg #[.pointer (some ⟨2, 101, none⟩)])]).run Tryz.prog w = .ok (.bool true) w := by kernel_rfl
theorem zj (v:Value) (w:World):(ReflectliteType.typeOf #[.iface 168 v]).run Tryz.prog w = .ok (.iface 257 (.agg #[.pointer (some ⟨2,168,none⟩)])) w:=by kernel_rfl
theorem pT (w : World) : (ReflectliteType.relation "AssignableTo" ReflectliteType.assignableTo #[.agg #[.pointer (some ⟨2, 168, none⟩)], .iface 257 (.agg #[.pointer (some ⟨2, 168, none⟩)])]).run Tryz.prog w = .ok (.bool true) w := by kernel_rfl
theorem wH (e:Addr) (w:World):(ReflectliteValue.unpack (.iface 168 (.pointer (some e)))).run Tryz.prog w
  = .ok (.agg #[.pointer (some ⟨2,168,none⟩),.pointer (some ⟨w.heap.size,0,none⟩),.int .u64 150]) (w.alloc (.cells #[.pointer (some e)] 168)):=by kernel_rfl
theorem E7 (w:World):(Rtype.elem? 169).run Tryz.prog w = .ok (some 168) w:=by kernel_rfl
theorem Je (p:Addr) (w:World):(ReflectliteValue.mk 168 p ReflectliteValue.flagAddr).run Tryz.prog w = .ok (.agg #[.pointer (some ⟨2,168,none⟩),.pointer (some p),.int .u64 406]) w:=by kernel_rfl
theorem GF (a p:Addr) (W:World) (ha:W.cell? a=some (.pointer (some p))) :
  (ReflectliteValue.method (ReflectliteValue.valueError "reflectlite.Value.Elem" 0) ReflectliteValue.elem #[.agg #[.pointer (some ⟨2, 169, none⟩), .pointer (some a), .int .u64 150]]).run Tryz.prog W
   = .ok (.agg #[.pointer (some ⟨2,168,none⟩),.pointer (some p),.int .u64 406]) W:=by
 rw [I0]
 simp only [bY,Dm,Result.andThen]
 simp [ReflectliteValue.elem,loadVar,isAgg,underlying,Tryz.underlying169,ha,Result.andThen,E7,Je]
theorem GZ (a:Addr) (w:World):(ReflectliteValue.parts (.agg #[.pointer (some ⟨2,168,none⟩),.pointer (some a),.int .u64 406])).run Tryz.prog w = .ok (some (168,a,406)) w:=by kernel_rfl
theorem It (a:Addr) (w:World):(ReflectliteValue.parts (.agg #[.pointer (some ⟨2,168,none⟩),.pointer (some a),.int .u64 150])).run Tryz.prog w = .ok (some (168,a,150)) w:=by kernel_rfl
theorem GC (w:World):(Rtype.directlyAssignable 168 168).run Tryz.prog w = .ok true w:=by kernel_rfl
theorem Ix (d b e:Addr) (fW:Value) (W:World) (i:W.cell? b=some (.pointer (some e))) (j:W.cell? d=some fW) (l:W.frozen? d=false) :
  (ReflectliteValue.set #[.agg #[.pointer (some ⟨2,168,none⟩),.pointer (some d),.int .u64 406],.agg #[.pointer (some ⟨2,168,none⟩),.pointer (some b),.int .u64 150]]).run Tryz.prog W
   = .ok (.tuple #[]) (W.setCell d (.pointer (some e))):=by
 rw [Jb]
 simp only [bY,GZ,It,Result.andThen]
 simp [ReflectliteValue.flagAddr,loadVar,isAgg,underlying,Tryz.underlying168,i,Result.andThen,GC,storeVar,Value.cells,storeCells,Addr.add]
 rw [run_store Tryz.prog W d _ _ (by rfl)]
 simp [j,l]
theorem rI (h : Value) (w : World) : (Go.method 433 257 (.agg #[h]) "Kind").run Tryz.prog w = .ok (191, h) w := by kernel_rfl
theorem rH (h : Value) (w : World) : (Go.method 433 257 (.agg #[h]) "Elem").run Tryz.prog w = .ok (216, .agg #[h]) w := by kernel_rfl
theorem me (h : Value) (w : World) : (Go.method 433 257 (.agg #[h]) "Implements").run Tryz.prog w = .ok (217, .agg #[h]) w := by kernel_rfl
theorem iB (h : Value) (w : World) : (Go.method 433 257 (.agg #[h]) "AssignableTo").run Tryz.prog w = .ok (214, .agg #[h]) w := by kernel_rfl
def sR (e t:Addr) (w:World):World :=
 ((((w.alloc (.cells #[.pointer (some t)] 164)).alloc (.cells #[.pointer (some ⟨2,164,none⟩),.pointer (some ⟨w.heap.size,0,none⟩),.int .u64 150] 219)).alloc (.cells #[.pointer (some ⟨2,164,none⟩),.pointer (some ⟨w.heap.size,0,none⟩),.int .u64 150] 219)).alloc (.cells #[.pointer (some e)] 114)).setCell t (.pointer (some e))
theorem uD (e t:Addr) (fW:Value) (w:World) (i:w.cell? ⟨0,0,none⟩=some (.iface 257 (.agg #[.pointer (some ⟨2,101,none⟩)]))) (b:w.cell? t=some fW) (j:w.frozen? t=false) :
  Calls Tryz.prog 86 #[.iface 114 (.pointer (some e)),.iface 164 (.pointer (some t))] w fun ev w'=>ev = .returned (.bool true)∧w'=sR e t w:=by
 have s := @run_callFunc_extern Tryz.prog 123 _ (fun args=>ReflectliteValue.unpack (args.getD 0 (.tuple #[]))) Tryz.func123 (by kernel_rfl) (by kernel_rfl) (by kernel_rfl) (by kernel_rfl)
 have u := @run_callFunc_extern Tryz.prog 124 _ (ReflectliteValue.methodAny (ReflectliteValue.valueError "reflectlite.Value.Type" 0) (fun t _ _ _ => ReflectliteType.toType t)) Tryz.func124 (by kernel_rfl) (by kernel_rfl) (by kernel_rfl) (by kernel_rfl)
 have x := @run_callFunc_extern Tryz.prog 125 _ (ReflectliteValue.method (ReflectliteValue.valueError "reflectlite.Value.IsNil" 0) ReflectliteValue.isNil) Tryz.func125 (by kernel_rfl) (by kernel_rfl) (by kernel_rfl) (by kernel_rfl)
 have y := @run_callFunc_extern Tryz.prog 191 _ (ReflectliteType.abiMethod fun t=>do pure (.int .u8 (←Rtype.kind t))) Tryz.func191 (by kernel_rfl) (by kernel_rfl) (by kernel_rfl) (by kernel_rfl)
 have B := @run_callFunc_extern Tryz.prog 216 _ (ReflectliteType.method ReflectliteType.elem) Tryz.func216 (by kernel_rfl) (by kernel_rfl) (by kernel_rfl) (by kernel_rfl)
 have C := @run_callFunc_extern Tryz.prog 217 _ (ReflectliteType.relation "Implements" ReflectliteType.implements_) Tryz.func217 (by kernel_rfl) (by kernel_rfl) (by kernel_rfl) (by kernel_rfl)
 have D := @run_callFunc_extern Tryz.prog 127 _ ReflectliteType.typeOf Tryz.func127 (by kernel_rfl) (by kernel_rfl) (by kernel_rfl) (by kernel_rfl)
 have E := @run_callFunc_extern Tryz.prog 214 _ (ReflectliteType.relation "AssignableTo" ReflectliteType.assignableTo) Tryz.func214 (by kernel_rfl) (by kernel_rfl) (by kernel_rfl) (by kernel_rfl)
 have F := @run_callFunc_extern Tryz.prog 149 _ (ReflectliteValue.method (ReflectliteValue.valueError "reflectlite.Value.Elem" 0) ReflectliteValue.elem) Tryz.func149 (by kernel_rfl) (by kernel_rfl) (by kernel_rfl) (by kernel_rfl)
 have G := @run_callFunc_extern Tryz.prog 150 _ ReflectliteValue.set Tryz.func150 (by kernel_rfl) (by kernel_rfl) (by kernel_rfl) (by kernel_rfl)
 have I:=zi
 have J:=iB
 have a25:=zF
 have v25:=Gi
 have f6:=EM
 have f7:=Iz
 have M:=rI
 have N:=rH
 have O:=me
 have m:=Ih
 have o:=IN
 have q:=Ib
 have i25:=Ac
 have n8:=GO ⟨w.heap.size,0,none⟩ t ((w.alloc (.cells #[.pointer (some t)] 164)).alloc (.cells #[.pointer (some ⟨2,164,none⟩),.pointer (some ⟨w.heap.size,0,none⟩),.int .u64 150] 219)) (by simp)
 have l:0<w.heap.size:=fP i
 have r:((w.alloc (.cells #[.pointer (some t)] 164)).alloc (.cells #[.pointer (some ⟨2,164,none⟩),.pointer (some ⟨w.heap.size,0,none⟩),.int .u64 150] 219)).cell? ⟨0,0,none⟩=some (.iface 257 (.agg #[.pointer (some ⟨2,101,none⟩)])):=by
  rw [bW _ _ ⟨0,0,none⟩ (by simp <;> omega),bW _ _ ⟨0,0,none⟩ l];exact i
 have d:t.block<w.heap.size:=fP b
 have el:=GD ⟨w.heap.size,0,none⟩ t (((w.alloc (.cells #[.pointer (some t)] 164)).alloc (.cells #[.pointer (some ⟨2,164,none⟩),.pointer (some ⟨w.heap.size,0,none⟩),.int .u64 150] 219)).alloc (.cells #[.pointer (some ⟨2,164,none⟩),.pointer (some ⟨w.heap.size,0,none⟩),.int .u64 150] 219)) (by rw [bW _ _ ⟨w.heap.size,0,none⟩ (by simp <;> omega)];simp)
 have st:=I6 t ⟨w.heap.size+1+1+1,0,none⟩ e fW ((((w.alloc (.cells #[.pointer (some t)] 164)).alloc (.cells #[.pointer (some ⟨2,164,none⟩),.pointer (some ⟨w.heap.size,0,none⟩),.int .u64 150] 219)).alloc (.cells #[.pointer (some ⟨2,164,none⟩),.pointer (some ⟨w.heap.size,0,none⟩),.int .u64 150] 219)).alloc (.cells #[.pointer (some e)] 114))
  (by rw [World.cell?_alloc_at _ _ _ _ (by simp)];rfl)
  (by rw [bW _ _ t (by simp <;> omega),bW _ _ t (by simp <;> omega),bW _ _ t (by simp <;> omega),bW _ _ t d];exact b)
  (by rw [dC _ _ t (by simp <;> omega),dC _ _ t (by simp <;> omega),dC _ _ t (by simp <;> omega),dC _ _ t (fF d)];exact j)
 go_enter Tryz.func86,Tryz.ntmps86
 go_wp2
 refine wp_loop_rounds 1 ?_
 rw [rounds_succ]
 go_wp2
 go_ret
 exact ⟨rfl,rfl⟩
end Go.Proofs.YtkkfmkhbdoeglaaGreatDoor
