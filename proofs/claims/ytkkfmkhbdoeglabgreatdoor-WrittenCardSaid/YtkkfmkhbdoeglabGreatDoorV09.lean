/- Lemmas of the proof. No condition. -/
import Derived.LaidEql
import Derived.RowKitTokens
import Derived.Stop.Asserts
import Derived.Test.YtkkfmkhbdoeglabGreatDoorV02
set_option maxHeartbeats 4000000
namespace Go.Proofs.YtkkfmkhbdoeglabGreatDoor
open Go renaming World->Q0,Value->Q4
open Go.IntKind renaming u64->Re,u8->Rf
open Go.Obj renaming cells->Q1
open Go.Value renaming int->I,pointer->Q5,agg->Q9,iface->Rb,tuple->Rc,bool->Rh
open Go.World renaming heap->Q,cell?->Rn,alloc->Ro
open Option renaming none->J,some->N
open _root_.Array renaming size->G
open Go.Proofs.Tryz
open Go.RowKit Go.Extern.Stop Go.Stop Go.Extern
theorem Qu(z:Sem Q4)(f:TypeId->Addr->Nat->Nat->Sem Q4)(v:Q4):
  ReflectliteValue.method z f #[v]=(do match <-ReflectliteValue.parts v with|none=>z|some (t,a,b)=>f t a b (b%32)):=rfl
theorem QK(v x:Q4):ReflectliteValue.set #[v,x]=(do
  let (N (dst,a,d),N (src,b,_)):=(<-ReflectliteValue.parts v,<-ReflectliteValue.parts x)
   | unsupported (.noEntry "extern/(internal/reflectlite.Value).Set.zeroValue")
  if d / ReflectliteValue.flagAddr%2==0 then unsupported (.noEntry "extern/(internal/reflectlite.Value).Set.unaddressable")
  let val <-loadVar src b
  if <-Rtype.directlyAssignable dst src then storeVar dst a val
  else if <-Rtype.implements dst src then
   if(<-Rtype.kind src)==20 then
    match val with
    | .nilIface=>unsupported (.noEntry "extern/reflectlite: a nil value of one interface type handed on as a value of another")
    | _=>storeVar dst a val
   else storeVar dst a (Rb src val)
  else panicString ("reflectlite.Set: value of type " ++(←Rtype.spelt src)++ " is not assignable to type " ++(←Rtype.spelt dst))
  pure (Rc #[])):=rfl
theorem Mf(t:Addr)(w:Q0):(ReflectliteValue.unpack (Rb 183 (Q5 (N t)))).run prog w
  = .ok (Q9 #[Q5 (N ⟨2,183,J⟩),Q5 (N ⟨G (Q w),0,J⟩),I Re 150]) (Ro w (Q1 #[Q5 (N t)] 183)):=by kernel_rfl
theorem PY(a:Addr)(w:Q0):(ReflectliteValue.methodAny (ReflectliteValue.valueError "reflectlite.Value.Type" 0) (fun t _ _ _=>ReflectliteType.toType t) #[Q9 #[Q5 (N ⟨2,183,J⟩),Q5 (N a),I Re 150]]).run prog w
  = .ok (Rb 286 (Q9 #[Q5 (N ⟨2,183,J⟩)])) w:=by kernel_rfl
theorem PH(w:Q0):((ReflectliteType.abiMethod fun t=>(fun a:Nat=>I Rf (a:Int)) <$> Rtype.kind t) #[Q5 (N ⟨2,183,J⟩)]).run prog w=.ok (I Rf 22) w:=by kernel_rfl
theorem Qh(w:Q0):((ReflectliteType.abiMethod fun t=>(fun a:Nat=>I Rf (a:Int)) <$> Rtype.kind t) #[Q5 (N ⟨2,171,J⟩)]).run prog w=.ok (I Rf 22) w:=by kernel_rfl
theorem Kr(a:Addr)(w:Q0):(ReflectliteValue.parts (Q9 #[Q5 (N ⟨2,183,J⟩),Q5 (N a),I Re 150])).run prog w=.ok (N (183,a,150)) w:=by kernel_rfl
theorem OE(a p:Addr)(W:Q0)(ha:Rn W a=N (Q5 (N p))):
  (ReflectliteValue.method (ReflectliteValue.valueError "reflectlite.Value.IsNil" 0) ReflectliteValue.isNil #[Q9 #[Q5 (N ⟨2,183,J⟩),Q5 (N a),I Re 150]]).run prog W=.ok (Rh false) W:=by
 rw[Qu];simp only[cI,Kr,Result.andThen];simp[ReflectliteValue.isNil,loadVar,isAgg,underlying,underlying183,ha,Result.andThen]
theorem PB(w:Q0):(ReflectliteType.method ReflectliteType.elem #[Q9 #[Q5 (N ⟨2,183,J⟩)]]).run prog w=.ok (Rb 286 (Q9 #[Q5 (N ⟨2,171,J⟩)])) w:=by kernel_rfl
theorem Gk(w:Q0):(ReflectliteType.relation "Implements" ReflectliteType.implements_ #[Q9 #[Q5 (N ⟨2,171,J⟩)],Rb 286 (Q9 #[Q5 (N ⟨2,128,J⟩)])]).run prog w=.ok (Rh true) w:=by kernel_rfl
theorem Fk(v:Q4)(w:Q0):(ReflectliteType.typeOf #[Rb 171 v]).run prog w=.ok (Rb 286 (Q9 #[Q5 (N ⟨2,171,J⟩)])) w:=by kernel_rfl
theorem FH(w:Q0):(ReflectliteType.relation "AssignableTo" ReflectliteType.assignableTo #[Q9 #[Q5 (N ⟨2,171,J⟩)],Rb 286 (Q9 #[Q5 (N ⟨2,171,J⟩)])]).run prog w=.ok (Rh true) w:=by kernel_rfl
theorem NZ(e:Addr)(w:Q0):(ReflectliteValue.unpack (Rb 171 (Q5 (N e)))).run prog w
  = .ok (Q9 #[Q5 (N ⟨2,171,J⟩),Q5 (N ⟨G (Q w),0,J⟩),I Re 150]) (Ro w (Q1 #[Q5 (N e)] 171)):=by kernel_rfl
theorem MP(w:Q0):(Rtype.elem? 183).run prog w=.ok (N 171) w:=by kernel_rfl
theorem QL(p:Addr)(w:Q0):(ReflectliteValue.mk 171 p ReflectliteValue.flagAddr).run prog w=.ok (Q9 #[Q5 (N ⟨2,171,J⟩),Q5 (N p),I Re 406]) w:=by kernel_rfl
theorem Ox(a p:Addr)(W:Q0)(ha:Rn W a=N (Q5 (N p))):
  (ReflectliteValue.method (ReflectliteValue.valueError "reflectlite.Value.Elem" 0) ReflectliteValue.elem #[Q9 #[Q5 (N ⟨2,183,J⟩),Q5 (N a),I Re 150]]).run prog W
    = .ok (Q9 #[Q5 (N ⟨2,171,J⟩),Q5 (N p),I Re 406]) W:=by
 rw[Qu];simp only[cI,Kr,Result.andThen];simp[ReflectliteValue.elem,loadVar,isAgg,underlying,underlying183,ha,Result.andThen,MP,QL]
theorem OO(a:Addr)(w:Q0):(ReflectliteValue.parts (Q9 #[Q5 (N ⟨2,171,J⟩),Q5 (N a),I Re 406])).run prog w=.ok (N (171,a,406)) w:=by kernel_rfl
theorem PS(a:Addr)(w:Q0):(ReflectliteValue.parts (Q9 #[Q5 (N ⟨2,171,J⟩),Q5 (N a),I Re 150])).run prog w=.ok (N (171,a,150)) w:=by kernel_rfl
theorem Ou(w:Q0):(Rtype.directlyAssignable 171 171).run prog w=.ok true w:=by kernel_rfl
theorem QD(d b e:Addr)(iI:Q4)(W:Q0)(i:Rn W b=N (Q5 (N e)))(j:Rn W d=N iI)(l:W.frozen? d=false):
  (ReflectliteValue.set #[Q9 #[Q5 (N ⟨2,171,J⟩),Q5 (N d),I Re 406],Q9 #[Q5 (N ⟨2,171,J⟩),Q5 (N b),I Re 150]]).run prog W
    = .ok (Rc #[]) (World.setCell W d (Q5 (N e))):=by
 rw[QK];simp only[cI,OO,PS,Result.andThen];simp[ReflectliteValue.flagAddr,loadVar,isAgg,underlying,underlying171,i,Result.andThen,Ou,storeVar,Value.cells,storeCells,Addr.add];rw[run_store prog W d _ _ (by rfl)];simp[j,l]
theorem D9(t:Addr)(w:Q0):(ReflectliteValue.unpack (Rb 189 (Q5 (N t)))).run prog w
  = .ok (Q9 #[Q5 (N ⟨2,189,J⟩),Q5 (N ⟨G (Q w),0,J⟩),I Re 150]) (Ro w (Q1 #[Q5 (N t)] 189)):=by kernel_rfl
theorem NX(a:Addr)(w:Q0):(ReflectliteValue.methodAny (ReflectliteValue.valueError "reflectlite.Value.Type" 0) (fun t _ _ _=>ReflectliteType.toType t) #[Q9 #[Q5 (N ⟨2,189,J⟩),Q5 (N a),I Re 150]]).run prog w
  = .ok (Rb 286 (Q9 #[Q5 (N ⟨2,189,J⟩)])) w:=by kernel_rfl
theorem M7(w:Q0):((ReflectliteType.abiMethod fun t=>(fun a:Nat=>I Rf (a:Int)) <$> Rtype.kind t) #[Q5 (N ⟨2,189,J⟩)]).run prog w=.ok (I Rf 22) w:=by kernel_rfl
theorem Pe(w:Q0):((ReflectliteType.abiMethod fun t=>(fun a:Nat=>I Rf (a:Int)) <$> Rtype.kind t) #[Q5 (N ⟨2,188,J⟩)]).run prog w=.ok (I Rf 22) w:=by kernel_rfl
theorem Ks(a:Addr)(w:Q0):(ReflectliteValue.parts (Q9 #[Q5 (N ⟨2,189,J⟩),Q5 (N a),I Re 150])).run prog w=.ok (N (189,a,150)) w:=by kernel_rfl
theorem Kj(a p:Addr)(W:Q0)(ha:Rn W a=N (Q5 (N p))):
  (ReflectliteValue.method (ReflectliteValue.valueError "reflectlite.Value.IsNil" 0) ReflectliteValue.isNil #[Q9 #[Q5 (N ⟨2,189,J⟩),Q5 (N a),I Re 150]]).run prog W=.ok (Rh false) W:=by
 rw[Qu];simp only[cI,Ks,Result.andThen];simp[ReflectliteValue.isNil,loadVar,isAgg,underlying,underlying189,ha,Result.andThen]
theorem MR(w:Q0):(ReflectliteType.method ReflectliteType.elem #[Q9 #[Q5 (N ⟨2,189,J⟩)]]).run prog w=.ok (Rb 286 (Q9 #[Q5 (N ⟨2,188,J⟩)])) w:=by kernel_rfl
theorem zn(w:Q0):(ReflectliteType.relation "Implements" ReflectliteType.implements_ #[Q9 #[Q5 (N ⟨2,188,J⟩)],Rb 286 (Q9 #[Q5 (N ⟨2,128,J⟩)])]).run prog w=.ok (Rh true) w:=by kernel_rfl
theorem Fl(v:Q4)(w:Q0):(ReflectliteType.typeOf #[Rb 188 v]).run prog w=.ok (Rb 286 (Q9 #[Q5 (N ⟨2,188,J⟩)])) w:=by kernel_rfl
theorem uK(w:Q0):(ReflectliteType.relation "AssignableTo" ReflectliteType.assignableTo #[Q9 #[Q5 (N ⟨2,188,J⟩)],Rb 286 (Q9 #[Q5 (N ⟨2,188,J⟩)])]).run prog w=.ok (Rh true) w:=by kernel_rfl
theorem Ci(e:Addr)(w:Q0):(ReflectliteValue.unpack (Rb 188 (Q5 (N e)))).run prog w
  = .ok (Q9 #[Q5 (N ⟨2,188,J⟩),Q5 (N ⟨G (Q w),0,J⟩),I Re 150]) (Ro w (Q1 #[Q5 (N e)] 188)):=by kernel_rfl
theorem MQ(w:Q0):(Rtype.elem? 189).run prog w=.ok (N 188) w:=by kernel_rfl
theorem QM(p:Addr)(w:Q0):(ReflectliteValue.mk 188 p ReflectliteValue.flagAddr).run prog w=.ok (Q9 #[Q5 (N ⟨2,188,J⟩),Q5 (N p),I Re 406]) w:=by kernel_rfl
theorem Oy(a p:Addr)(W:Q0)(ha:Rn W a=N (Q5 (N p))):
  (ReflectliteValue.method (ReflectliteValue.valueError "reflectlite.Value.Elem" 0) ReflectliteValue.elem #[Q9 #[Q5 (N ⟨2,189,J⟩),Q5 (N a),I Re 150]]).run prog W
    = .ok (Q9 #[Q5 (N ⟨2,188,J⟩),Q5 (N p),I Re 406]) W:=by
 rw[Qu];simp only[cI,Ks,Result.andThen];simp[ReflectliteValue.elem,loadVar,isAgg,underlying,underlying189,ha,Result.andThen,MQ,QM]
theorem OP(a:Addr)(w:Q0):(ReflectliteValue.parts (Q9 #[Q5 (N ⟨2,188,J⟩),Q5 (N a),I Re 406])).run prog w=.ok (N (188,a,406)) w:=by kernel_rfl
theorem PT(a:Addr)(w:Q0):(ReflectliteValue.parts (Q9 #[Q5 (N ⟨2,188,J⟩),Q5 (N a),I Re 150])).run prog w=.ok (N (188,a,150)) w:=by kernel_rfl
theorem Ov(w:Q0):(Rtype.directlyAssignable 188 188).run prog w=.ok true w:=by kernel_rfl
theorem PW(d b e:Addr)(iI:Q4)(W:Q0)(i:Rn W b=N (Q5 (N e)))(j:Rn W d=N iI)(l:W.frozen? d=false):
  (ReflectliteValue.set #[Q9 #[Q5 (N ⟨2,188,J⟩),Q5 (N d),I Re 406],Q9 #[Q5 (N ⟨2,188,J⟩),Q5 (N b),I Re 150]]).run prog W
    = .ok (Rc #[]) (World.setCell W d (Q5 (N e))):=by
 rw[QK];simp only[cI,OP,PT,Result.andThen];simp[ReflectliteValue.flagAddr,loadVar,isAgg,underlying,underlying188,i,Result.andThen,Ov,storeVar,Value.cells,storeCells,Addr.add];rw[run_store prog W d _ _ (by rfl)];simp[j,l]
theorem wT(h:Q4)(w:Q0):(Go.method 470 286 (Q9 #[h]) "Kind").run prog w=.ok (237,h) w:=by kernel_rfl
theorem wR(h:Q4)(w:Q0):(Go.method 470 286 (Q9 #[h]) "Elem").run prog w=.ok (259,Q9 #[h]) w:=by kernel_rfl
theorem qg(h:Q4)(w:Q0):(Go.method 470 286 (Q9 #[h]) "Implements").run prog w=.ok (260,Q9 #[h]) w:=by kernel_rfl
theorem ky(h:Q4)(w:Q0):(Go.method 470 286 (Q9 #[h]) "AssignableTo").run prog w=.ok (257,Q9 #[h]) w:=by kernel_rfl
def yF(e t:Addr)(w:Q0):Q0:=
 ((((Ro w (Q1 #[Q5 (N t)] 183)).alloc (Q1 #[Q5 (N ⟨2,183,J⟩),Q5 (N ⟨G (Q w),0,J⟩),I Re 150] 232)).alloc (Q1 #[Q5 (N ⟨2,183,J⟩),Q5 (N ⟨G (Q w),0,J⟩),I Re 150] 232)).alloc (Q1 #[Q5 (N e)] 171)).setCell t (Q5 (N e))
theorem Ag(e t:Addr)(iI:Q4)(w:Q0)(i:Rn w ⟨0,0,J⟩=N (Rb 286 (Q9 #[Q5 (N ⟨2,128,J⟩)])))(b:Rn w t=N iI)(j:w.frozen? t=false):
  Calls prog 104 #[Rb 171 (Q5 (N e)),Rb 183 (Q5 (N t))] w fun ev w'=>ev=.returned (Rh true)/\w'=yF e t w:=by
 have s:=@run_callFunc_extern prog 141 _ (fun args=>ReflectliteValue.unpack (args.getD 0 (Rc #[]))) func141 (by kernel_rfl) (by kernel_rfl) (by kernel_rfl) (by kernel_rfl);have u:=@run_callFunc_extern prog 142 _ (ReflectliteValue.methodAny (ReflectliteValue.valueError "reflectlite.Value.Type" 0) (fun t _ _ _=>ReflectliteType.toType t)) func142 (by kernel_rfl) (by kernel_rfl) (by kernel_rfl) (by kernel_rfl);have x:=@run_callFunc_extern prog 143 _ (ReflectliteValue.method (ReflectliteValue.valueError "reflectlite.Value.IsNil" 0) ReflectliteValue.isNil) func143 (by kernel_rfl) (by kernel_rfl) (by kernel_rfl) (by kernel_rfl);have y:=@run_callFunc_extern prog 237 _ (ReflectliteType.abiMethod fun t=>do pure (I Rf (←Rtype.kind t))) func237 (by kernel_rfl) (by kernel_rfl) (by kernel_rfl) (by kernel_rfl);have B:=@run_callFunc_extern prog 259 _ (ReflectliteType.method ReflectliteType.elem) func259 (by kernel_rfl) (by kernel_rfl) (by kernel_rfl) (by kernel_rfl);have C:=@run_callFunc_extern prog 260 _ (ReflectliteType.relation "Implements" ReflectliteType.implements_) func260 (by kernel_rfl) (by kernel_rfl) (by kernel_rfl) (by kernel_rfl);have D:=@run_callFunc_extern prog 145 _ ReflectliteType.typeOf func145 (by kernel_rfl) (by kernel_rfl) (by kernel_rfl) (by kernel_rfl);have E:=@run_callFunc_extern prog 257 _ (ReflectliteType.relation "AssignableTo" ReflectliteType.assignableTo) func257 (by kernel_rfl) (by kernel_rfl) (by kernel_rfl) (by kernel_rfl);have F:=@run_callFunc_extern prog 183 _ (ReflectliteValue.method (ReflectliteValue.valueError "reflectlite.Value.Elem" 0) ReflectliteValue.elem) func183 (by kernel_rfl) (by kernel_rfl) (by kernel_rfl) (by kernel_rfl);have M:=@run_callFunc_extern prog 184 _ ReflectliteValue.set func184 (by kernel_rfl) (by kernel_rfl) (by kernel_rfl) (by kernel_rfl);have R:=Fk;have S:=ky;have a25:=FH;have v25:=NZ;have f6:=Mf;have f7:=PY;have U:=wT;have V:=wR;have W:=qg;have m:=PH;have o:=Qh;have q:=PB;have i25:=Gk;have n8:=OE ⟨G (Q w),0,J⟩ t ((Ro w (Q1 #[Q5 (N t)] 183)).alloc (Q1 #[Q5 (N ⟨2,183,J⟩),Q5 (N ⟨G (Q w),0,J⟩),I Re 150] 232)) (by simp);have l:0<G (Q w):=gK i;have r:((Ro w (Q1 #[Q5 (N t)] 183)).alloc (Q1 #[Q5 (N ⟨2,183,J⟩),Q5 (N ⟨G (Q w),0,J⟩),I Re 150] 232)).cell? ⟨0,0,J⟩=N (Rb 286 (Q9 #[Q5 (N ⟨2,128,J⟩)])):=by rw[ck _ _ ⟨0,0,J⟩ (by simp<;>omega),ck _ _ ⟨0,0,J⟩ l];exact i
 have d:t.block<G (Q w):=gK b;have el:=Ox ⟨G (Q w),0,J⟩ t (((Ro w (Q1 #[Q5 (N t)] 183)).alloc (Q1 #[Q5 (N ⟨2,183,J⟩),Q5 (N ⟨G (Q w),0,J⟩),I Re 150] 232)).alloc (Q1 #[Q5 (N ⟨2,183,J⟩),Q5 (N ⟨G (Q w),0,J⟩),I Re 150] 232)) (by rw[ck _ _ ⟨G (Q w),0,J⟩ (by simp<;>omega)];simp)
 have st:=QD t ⟨G (Q w)+1+1+1,0,J⟩ e iI ((((Ro w (Q1 #[Q5 (N t)] 183)).alloc (Q1 #[Q5 (N ⟨2,183,J⟩),Q5 (N ⟨G (Q w),0,J⟩),I Re 150] 232)).alloc (Q1 #[Q5 (N ⟨2,183,J⟩),Q5 (N ⟨G (Q w),0,J⟩),I Re 150] 232)).alloc (Q1 #[Q5 (N e)] 171))
  (by rw[World.cell?_alloc_at _ _ _ _ (by simp)];rfl)
  (by rw[ck _ _ t (by simp<;>omega),ck _ _ t (by simp<;>omega),ck _ _ t (by simp<;>omega),ck _ _ t d];exact b)
  (by rw[dV _ _ t (by simp<;>omega),dV _ _ t (by simp<;>omega),dV _ _ t (by simp<;>omega),dV _ _ t (Nat.ne_of_lt d)];exact j)
 go_enter func104,ntmps104;go_wp2;refine wp_loop_rounds 1 ?_;rw[rounds_succ];go_wp2;go_ret;exact⟨rfl,rfl⟩
end Go.Proofs.YtkkfmkhbdoeglabGreatDoor
