/- A part of what is proved here: lemmas and contracts of single functions. No condition but those that each names. -/
import Derived.Test.YtkkfmkhbdoeglabGreatDoorG00
import Derived.Test.YtkkfmkhbdoeglabGreatDoorG13
set_option maxHeartbeats 4000000
set_option maxRecDepth 100000
namespace Go.Proofs.YtkkfmkhbdoeglabGreatDoor
open Go.RowKit Go.Extern.Stop Go.Stop Go.Extern
theorem Cz (x y:Value) (w:World):(binOp .eql 128 (.iface 188 x) (.iface 184 y)).run Tryz.prog w = .ok (.bool false) w :=
 run_eql_iface_types _ _ _ _ Tryz.underlying128 (by decide) w
theorem Jk (v:Value) (b:TypeId) (w:World):(Instr.typeAssert (.iface 188 v) b 297 true).run Tryz.prog w = .ok (.tuple #[.nilIface,.bool false]) w:=run_typeAssert_lacksB Tryz.underlying297 (by kernel_rfl) (by kernel_rfl) v b w
theorem Jl (v:Value) (b:TypeId) (w:World):(Instr.typeAssert (.iface 188 v) b 293 true).run Tryz.prog w = .ok (.tuple #[.nilIface,.bool false]) w:=run_typeAssert_lacksB Tryz.underlying293 (by kernel_rfl) (by kernel_rfl) v b w
theorem Jm (v:Value) (b:TypeId) (w:World):(Instr.typeAssert (.iface 188 v) b 294 true).run Tryz.prog w = .ok (.tuple #[.nilIface,.bool false]) w:=run_typeAssert_lacksB Tryz.underlying294 (by kernel_rfl) (by kernel_rfl) v b w
theorem Jf (v:Value) (m:Int) (w:World) :
  Calls Tryz.prog 146 #[.iface 188 v,.iface 184 (.int .i64 m),.bool true] w fun e w'=>e = .returned (.bool false)∧w'=w:=by
 have a1:=Jk
 have a2:=Jl
 have a3:=Jm
 have he:=Cz
 go_enter Tryz.func146,Tryz.ntmps146
 go_wp2
 refine wp_loop_rounds 1 ?_
 rw [rounds_succ]
 go_wp2
 go_ret
 exact ⟨rfl,rfl⟩
def ng (w:World) (b c:Nat) (k n:Int):Prop:=w.heap[b]?=some (.cells #[.int .i64 k,.int .i64 n,.iface 188 (.pointer (some ⟨c,0,none⟩))] 186 (0,0))
theorem xY (b c:Nat) (k n:Int) (w:World) (d:ng w b c k n) :
  Calls Tryz.prog 246 #[.pointer (some ⟨b,0,none⟩)] w fun r w'=>r = .returned (.slice (some ⟨w.heap.size,0,none⟩) 2 2)∧w'.heap[w.heap.size]?=some (.cells #[.iface 184 (.int .i64 k),.iface 188 (.pointer (some ⟨c,0,none⟩))] 128 (0,0))∧Below w.heap.size w w':=by
 unfold ng at d
 have j:=ae _ _ 0 _ _ _ d
 have h2:=ae _ _ 2 _ _ _ d
 have i:=fO d
 clear d
 go_enter Tryz.func246,Tryz.ntmps246
 go_wp2
 go_region
 all_goals
  go_wp2
  go_ret
  first
   | exact ⟨rfl,fR w _,((Below.refl _ w).alloc (af _) _).drew⟩
   | exact ⟨rfl,fR w.drew _,(Below.refl _ w).drew.alloc (af _) _⟩
theorem CN (b c:Nat) (k n m:Int) (w:World) (j:ng w b c k n) :
  Calls Tryz.prog 146 #[.iface 171 (.pointer (some ⟨b,0,none⟩)),.iface 184 (.int .i64 m),.bool true] w fun e w'=>e = .returned (.bool (k==m))∧Below w.heap.size w w':=by
 have a1:=Ir
 have a2:=DS
 have a3:=zm
 have o:=mL
 have he:=rj
 cases d:(k==m)
 all_goals
  have l:=ab d
  clear d
  go_enter Tryz.func146,Tryz.ntmps146
  go_wp2
  refine wp_loop_rounds 1 ?_
  rw [rounds_succ]
  go_wp2_with (go_at_call 246;refine (xY b c k n _ j).mono ?_;rintro e w1 ⟨rfl,hu,i⟩;have u0:=ae _ _ 0 _ _ _ hu;have u1:=ae _ _ 1 _ _ _ hu;have ul:=fO hu;clear hu)
  refine wp_loop_rounds 3 ?_
  rw [rounds_succ]
  go_wp2_with (go_at_call 146;refine (AI k m _).mono ?_;rintro e w2 ⟨rfl,rfl⟩;rw [l.out])
 ·rw [rounds_succ]
  go_wp2_with (go_at_call 146;refine (Jf _ m _).mono ?_;rintro e w2 ⟨rfl,rfl⟩)
  rw [rounds_succ]
  go_wp2
  go_ret
  exact ⟨rfl,i⟩
 ·go_ret
  exact ⟨rfl,i⟩
theorem vu (b c:Nat) (k n m:Int) (w:World) (i:ng w b c k n) :
  Calls Tryz.prog 105 #[.iface 171 (.pointer (some ⟨b,0,none⟩)),.iface 184 (.int .i64 m)] w fun e w'=>e = .returned (.bool (k==m))∧Below w.heap.size w w':=by
 have j := @run_callFunc_extern Tryz.prog 145 _ ReflectliteType.typeOf Tryz.func145 (by kernel_rfl) (by kernel_rfl) (by kernel_rfl) (by kernel_rfl)
 have l := @run_callFunc_extern Tryz.prog 258 _ (ReflectliteType.method fun t => do Rtype.noPackHeld "Comparable" t; pure (.bool (← typeInfo t).comparable)) Tryz.func258 (by kernel_rfl) (by kernel_rfl) (by kernel_rfl) (by kernel_rfl)
 have o : ∀ w, (ReflectliteType.method (fun t => do Rtype.noPackHeld "Comparable" t; (fun a : TypeInfo => Value.bool a.comparable) <$> typeInfo t) #[.agg #[.pointer (some ⟨2, 184, none⟩)]]).run Tryz.prog w = .ok (.bool true) w := fun w => by kernel_rfl
 have q:=zJ
 have r:=ud
 go_enter Tryz.func105,Tryz.ntmps105
 go_wp2_with (go_at_call 146;refine (CN b c k n m _ i).mono ?_;rintro e w1 ⟨rfl,d⟩)
 go_ret
 exact ⟨rfl,d⟩
def rJ (c:Addr) (B:Nat) (t:Addr) (w:World):World :=
 ((w.alloc (.cells #[.pointer (some ⟨2,189,none⟩),.pointer (some ⟨B,0,none⟩),.int .u64 150] 232)).alloc (.cells #[.pointer (some c)] 188)).setCell t (.pointer (some c))
theorem Eg (c t:Addr) (B:Nat) (m gr:Value) (w:World) (i:w.cell? ⟨B,0,none⟩=some (.pointer (some t))) (b:w.cell? t=some gr) (j:w.frozen? t=false) :
  Calls Tryz.prog 144 #[.iface 188 (.pointer (some c)),m,.agg #[.pointer (some ⟨2,189,none⟩),.pointer (some ⟨B,0,none⟩),.int .u64 150],.iface 286 (.agg #[.pointer (some ⟨2,188,none⟩)])] w fun e w'=>e = .returned (.bool true)∧w'=rJ c B t w:=by
 have o := @run_callFunc_extern Tryz.prog 141 _ (fun args=>ReflectliteValue.unpack (args.getD 0 (.tuple #[]))) Tryz.func141 (by kernel_rfl) (by kernel_rfl) (by kernel_rfl) (by kernel_rfl)
 have q := @run_callFunc_extern Tryz.prog 145 _ ReflectliteType.typeOf Tryz.func145 (by kernel_rfl) (by kernel_rfl) (by kernel_rfl) (by kernel_rfl)
 have r := @run_callFunc_extern Tryz.prog 257 _ (ReflectliteType.relation "AssignableTo" ReflectliteType.assignableTo) Tryz.func257 (by kernel_rfl) (by kernel_rfl) (by kernel_rfl) (by kernel_rfl)
 have s := @run_callFunc_extern Tryz.prog 183 _ (ReflectliteValue.method (ReflectliteValue.valueError "reflectlite.Value.Elem" 0) ReflectliteValue.elem) Tryz.func183 (by kernel_rfl) (by kernel_rfl) (by kernel_rfl) (by kernel_rfl)
 have u := @run_callFunc_extern Tryz.prog 184 _ ReflectliteValue.set Tryz.func184 (by kernel_rfl) (by kernel_rfl) (by kernel_rfl) (by kernel_rfl)
 have x:=zL
 have y:=iE
 have a25:=p7
 have v25:=xi
 have d:t.block<w.heap.size:=fU b
 have l:B<w.heap.size:=fU i
 have el:=Hj ⟨B,0,none⟩ t (w.alloc (.cells #[.pointer (some ⟨2,189,none⟩),.pointer (some ⟨B,0,none⟩),.int .u64 150] 232)) (by rw [bU _ _ ⟨B,0,none⟩ l];exact i)
 have st:=I0 t ⟨w.heap.size+1,0,none⟩ c gr ((w.alloc (.cells #[.pointer (some ⟨2,189,none⟩),.pointer (some ⟨B,0,none⟩),.int .u64 150] 232)).alloc (.cells #[.pointer (some c)] 188))
  (by rw [World.cell?_alloc_at _ _ _ _ (by simp)];rfl)
  (by rw [bU _ _ t (by simp <;> omega),bU _ _ t d];exact b)
  (by rw [dz _ _ t (by simp <;> omega),dz _ _ t (fL d)];exact j)
 go_enter Tryz.func144,Tryz.ntmps144
 go_wp2
 refine wp_loop_rounds 1 ?_
 rw [rounds_succ]
 go_wp2
 go_ret
 exact ⟨rfl,rfl⟩
theorem BZ (b c B d:Nat) (k n:Int) (F:Value) (w:World) (u:ng w b c k n) (x:w.cell? ⟨B,0,none⟩=some (.pointer (some ⟨d,0,none⟩))) (y:w.heap[d]?=some (.cells #[.pointer none] 188 (0,0))) :
  Calls Tryz.prog 144 #[.iface 171 (.pointer (some ⟨b,0,none⟩)),F,.agg #[.pointer (some ⟨2,189,none⟩),.pointer (some ⟨B,0,none⟩),.int .u64 150],.iface 286 (.agg #[.pointer (some ⟨2,188,none⟩)])] w fun e w'=>e = .returned (.bool true)∧Ext (fun k=>k=d) w w'∧w'.heap[d]?=some (.cells #[.pointer (some ⟨c,0,none⟩)] 188 (0,0)):=by
 have N := @run_callFunc_extern Tryz.prog 145 _ ReflectliteType.typeOf Tryz.func145 (by kernel_rfl) (by kernel_rfl) (by kernel_rfl) (by kernel_rfl)
 have O := @run_callFunc_extern Tryz.prog 257 _ (ReflectliteType.relation "AssignableTo" ReflectliteType.assignableTo) Tryz.func257 (by kernel_rfl) (by kernel_rfl) (by kernel_rfl) (by kernel_rfl)
 have Q:=zK
 have R:=iE
 have S:=sm
 have a1:=Iq
 have a2:=DS
 have a3:=zm
 have U:=mL
 have C:=fO u
 have D:B<w.heap.size:=fU x
 have o:=fO y
 have s:=ab y
 have G:=ab x
 go_enter Tryz.func144,Tryz.ntmps144
 go_wp2
 refine wp_loop_rounds 1 ?_
 rw [rounds_succ]
 go_wp2_with (go_at_call 246;refine (xY b c k n _ ((Below.heap_alloc _ _ _ C).trans u)).mono ?_;rintro e w1 ⟨rfl,hu,q⟩;have m:=fQ q (fO (fR w (.cells #[.pointer (some ⟨2,189,none⟩),.pointer (some ⟨B,0,none⟩),.int .u64 150] 232))) (fR w (.cells #[.pointer (some ⟨2,189,none⟩),.pointer (some ⟨B,0,none⟩),.int .u64 150] 232));have v0:=ae _ _ 0 _ _ _ m;have v1:=ae _ _ 1 _ _ _ m;have v2:=ae _ _ 2 _ _ _ m;have HV:=ab m;have r:=fO m;clear m;simp only [aw] at hu⊢;have u0:=ae _ _ 0 _ _ _ hu;have u1:=ae _ _ 1 _ _ _ hu;have ul:=fO hu;have E:=ab (show Below w.heap.size w w1 from ((Below.refl _ w).alloc (af _) _).tn q);clear hu q)
 refine wp_loop_rounds 3 ?_
 rw [rounds_succ]
 go_wp2_with (go_at_call 144;refine (Ac k _ _ _ _ _).mono ?_;rintro e w2 ⟨rfl,l⟩;have I:=(l.cell (p:=⟨w.heap.size+1,1,none⟩) (by first | exact ul | simpa using ul)).trans (by first | exact u1 | simpa using u1);have i:=ab (E.out.tn l);have V:=fU I;have j:=fQ l r HV.out;have W:=ae _ _ 0 _ _ _ j;have X:=ae _ _ 1 _ _ _ j;have Y:=ae _ _ 2 _ _ _ j;have J:=fO j;clear l u0 u1 ul v0 v1 v2 r j)
 rw [rounds_succ]
 go_wp2_with (go_at_call 144;refine (Eg ⟨c,0,none⟩ ⟨d,0,none⟩ B _ (.pointer none) _ ((i.out.cell (p:=⟨B,0,none⟩) D).trans G.out) (ae _ _ 0 _ _ _ (fQ i.out o s.out)) (aj _ _ 0 _ _ (fQ i.out o s.out))).mono ?_;rintro e w3 ⟨rfl,rfl⟩)
 go_ret
 have M:Ext (fun k=>k=d) w2 (rJ ⟨c,0,none⟩ B ⟨d,0,none⟩ w2):=(((Ext.refl _ w2).alloc _).alloc _).setCell ⟨d,0,none⟩ _ (.inl rfl)
 exact ⟨rfl,(Ext.fT i.out).trans M,by unfold rJ;exact heap_setCell _ _ 0 _ (fX _ _ (fX _ _ (fQ i.out o s.out)))⟩
theorem I6 (b c d:Nat) (k n:Int) (w:World) (j:ng w b c k n) (l:w.heap[d]?=some (.cells #[.pointer none] 188 (0,0))) (m:w.cell? ⟨0,0,none⟩=some (.iface 286 (.agg #[.pointer (some ⟨2,128,none⟩)]))) :
  Calls Tryz.prog 104 #[.iface 171 (.pointer (some ⟨b,0,none⟩)),.iface 189 (.pointer (some ⟨d,0,none⟩))] w fun ev w'=>ev = .returned (.bool true)∧Ext (fun k=>k=d) w w'∧w'.heap[d]?=some (.cells #[.pointer (some ⟨c,0,none⟩)] 188 (0,0)):=by
 have D := @run_callFunc_extern Tryz.prog 141 _ (fun args=>ReflectliteValue.unpack (args.getD 0 (.tuple #[]))) Tryz.func141 (by kernel_rfl) (by kernel_rfl) (by kernel_rfl) (by kernel_rfl)
 have E := @run_callFunc_extern Tryz.prog 142 _ (ReflectliteValue.methodAny (ReflectliteValue.valueError "reflectlite.Value.Type" 0) (fun t _ _ _ => ReflectliteType.toType t)) Tryz.func142 (by kernel_rfl) (by kernel_rfl) (by kernel_rfl) (by kernel_rfl)
 have F := @run_callFunc_extern Tryz.prog 143 _ (ReflectliteValue.method (ReflectliteValue.valueError "reflectlite.Value.IsNil" 0) ReflectliteValue.isNil) Tryz.func143 (by kernel_rfl) (by kernel_rfl) (by kernel_rfl) (by kernel_rfl)
 have G := @run_callFunc_extern Tryz.prog 237 _ (ReflectliteType.abiMethod fun t=>do pure (.int .u8 (←Rtype.kind t))) Tryz.func237 (by kernel_rfl) (by kernel_rfl) (by kernel_rfl) (by kernel_rfl)
 have I := @run_callFunc_extern Tryz.prog 259 _ (ReflectliteType.method ReflectliteType.elem) Tryz.func259 (by kernel_rfl) (by kernel_rfl) (by kernel_rfl) (by kernel_rfl)
 have J := @run_callFunc_extern Tryz.prog 260 _ (ReflectliteType.relation "Implements" ReflectliteType.implements_) Tryz.func260 (by kernel_rfl) (by kernel_rfl) (by kernel_rfl) (by kernel_rfl)
 have M := @run_callFunc_extern Tryz.prog 145 _ ReflectliteType.typeOf Tryz.func145 (by kernel_rfl) (by kernel_rfl) (by kernel_rfl) (by kernel_rfl)
 have N := @run_callFunc_extern Tryz.prog 257 _ (ReflectliteType.relation "AssignableTo" ReflectliteType.assignableTo) Tryz.func257 (by kernel_rfl) (by kernel_rfl) (by kernel_rfl) (by kernel_rfl)
 have O := @run_callFunc_extern Tryz.prog 183 _ (ReflectliteValue.method (ReflectliteValue.valueError "reflectlite.Value.Elem" 0) ReflectliteValue.elem) Tryz.func183 (by kernel_rfl) (by kernel_rfl) (by kernel_rfl) (by kernel_rfl)
 have Q := @run_callFunc_extern Tryz.prog 184 _ ReflectliteValue.set Tryz.func184 (by kernel_rfl) (by kernel_rfl) (by kernel_rfl) (by kernel_rfl)
 have R:=zL
 have S:=iE
 have a25:=p7
 have v25:=xi
 have f6:=yJ
 have f7:=GW
 have U:=rQ
 have V:=rP
 have W:=mu
 have x:=F0
 have y:=Ip
 have B:=FM
 have i25:=um
 have n8:=DQ ⟨w.heap.size,0,none⟩ ⟨d,0,none⟩ ((w.alloc (.cells #[.pointer (some ⟨d,0,none⟩)] 189)).alloc (.cells #[.pointer (some ⟨2,189,none⟩),.pointer (some ⟨w.heap.size,0,none⟩),.int .u64 150] 232)) (by simp)
 have o:0<w.heap.size:=fU m
 have C:((w.alloc (.cells #[.pointer (some ⟨d,0,none⟩)] 189)).alloc (.cells #[.pointer (some ⟨2,189,none⟩),.pointer (some ⟨w.heap.size,0,none⟩),.int .u64 150] 232)).cell? ⟨0,0,none⟩=some (.iface 286 (.agg #[.pointer (some ⟨2,128,none⟩)])):=by
  rw [bU _ _ ⟨0,0,none⟩ (by simp <;> omega),bU _ _ ⟨0,0,none⟩ o];exact m
 have i:Below w.heap.size w ((w.alloc (.cells #[.pointer (some ⟨d,0,none⟩)] 189)).alloc (.cells #[.pointer (some ⟨2,189,none⟩),.pointer (some ⟨w.heap.size,0,none⟩),.int .u64 150] 232)):=Below.al (Below.al (Below.rf w) _) _
 have q:=ab (BZ b c w.heap.size d k n (.iface 189 (.pointer (some ⟨d,0,none⟩))) _ (fQ i (fO j) j) (ae _ _ 0 _ _ _ (fX _ _ (fR w _))) (fQ i (fO l) l))
 have r:=ab i
 clear i j l
 go_enter Tryz.func104,Tryz.ntmps104
 go_wp2_with (go_at_call 144;refine q.out.mono ?_;rintro e w1 ⟨rfl,s,u⟩)
 go_ret
 exact ⟨rfl,(Ext.fT r.out).trans s,u⟩
theorem rz (b c:Nat) (k n:Int) (s:Nat) (w:World) (W:ErrVar w) (E:ng w b c k n) (hc:w.heap[c]?=some (.cells #[.int .i64 ((s:Int)-2)] 191 (0,0))) (hs:s≤100000) (h1:1≤k) (h2:k≤14) :
  Calls Tryz.prog 62 #[.iface 171 (.pointer (some ⟨b,0,none⟩))] w fun e w'=>e = .returned (.agg #[.int .i64 k,.int .i64 n,.int .i64 (s:Nat)])∧Below w.heap.size w w':=by
 unfold ng at E
 have J:=fO E
 have S:=fO hc
 have X:=ab hc
 clear hc
 go_enter Tryz.func62,Tryz.ntmps62
 go_wp2_with fail
 generalize r:(w.alloc (.cells #[.int .i64 0,.int .i64 0,.int .i64 0] 34)).alloc (.cells #[.pointer none] 171)=B
 have Y:B.heap.size=w.heap.size+1+1:=by rw [←r];simp
 have e0:Below w.heap.size w B:=by rw [←r];exact ((Below.refl _ w).alloc (af _) _).alloc (by simp) _
 have r0:B.heap[w.heap.size]?=some (.cells #[.int .i64 0,.int .i64 0,.int .i64 0] 34 (0,0)):=by rw [←r];exact fX _ _ (fR w _)
 have t0:B.heap[w.heap.size+1]?=some (.cells #[.pointer none] 171 (0,0)):=by rw [←r];have:=fR (w.alloc (.cells #[.int .i64 0,.int .i64 0,.int .i64 0] 34)) (.cells #[.pointer none] 171);simpa using this
 clear r
 refine (uY ⟨b,0,none⟩ ⟨w.heap.size+1,0,none⟩ (.pointer none) B (W.new e0).2 (ae _ _ 0 _ _ _ t0) (by rw [aj _ _ 0 _ _ t0]) ).mono ?_
 rintro e w1 ⟨rfl,M⟩
 have G:=sD ⟨b,0,none⟩ ⟨w.heap.size+1,0,none⟩ B
 have t1:=vf ⟨b,0,none⟩ (w.heap.size+1) B t0
 rw [←M] at G t1
 clear M
 have N:Below w.heap.size w w1:=e0.trans (G.below (by omega) (fun k hk e=>by simp only at e;omega))
 have I:=fQ N J E
 have c1:w1.cell? ⟨w.heap.size+1,0,none⟩=some (.pointer (some ⟨b,0,none⟩)):=ae _ _ 0 _ _ _ t1
 have k1:w1.cell? ⟨b,0,none⟩=some (.int .i64 k):=ae _ _ 0 _ _ _ I
 have n1:w1.cell? ⟨b,1,none⟩=some (.int .i64 n):=ae _ _ 1 _ _ _ I
 have ba:(k==0)=false:=by rw [aA];omega
 have S1:=ab Y
 have bb:w.heap.size+2≤w1.heap.size:=by have:=G.size;omega
 have HB:=ab E
 have O:=ab I
 have Q:=ab t1
 have R1:=ab (G.at (fun e=>by simp only at e;omega) r0)
 clear Y E I t1 r0 t0
 go_wp2
 go_loopw [4] (fun c wr=>∃ m:Nat,m≤15∧c = .int .i64 m∧Below w1.heap.size w1 wr) (fun c _=>15-(intOf c).toNat)
 case atStart=>exact ⟨0,by omega,rfl,Below.refl _ _⟩
 case round =>
  obtain ⟨m,hm,rfl,l⟩:=hrel
  have R:=l.size
  have D:=ab (fQ l (fO O.out) O.out)
  have U:=ab (fQ l (fO Q.out) Q.out)
  have Z:wr.cell? ⟨w.heap.size+1,0,none⟩=some (.pointer (some ⟨b,0,none⟩)):=ae _ _ 0 _ _ _ U.out
  have kr:wr.cell? ⟨b,0,none⟩=some (.int .i64 k):=ae _ _ 0 _ _ _ D.out
  have nr:wr.cell? ⟨b,1,none⟩=some (.int .i64 n):=ae _ _ 1 _ _ _ D.out
  clear c1 k1 n1
  by_cases a0:m<15
  ·by_cases o:k=(m:Int)
   ·have ag:(k==(m:Int))=true:=a8.2 o
    have ak:((m:Int)==k)=true:=a8.2 o.symm
    clear o
    go_wp2
    go_region_held3 (fun w'=>w'.cell? ⟨w.heap.size+1,0,none⟩=some (.pointer (some ⟨b,0,none⟩))∧w'.cell? ⟨b,0,none⟩=some (.int .i64 k))
     (first | go_keep | exact ⟨(d.cell (p:=⟨w.heap.size+1,0,none⟩) (fO U.out)).trans Z,(d.cell (p:=⟨b,0,none⟩) (fO D.out)).trans kr⟩)
     ((go_at_call 105;refine (vu b c k n m _ (by exact D.out)).mono ?_;rintro e w2 ⟨rfl,d⟩))
    go_wp2
    go_roundw
    case rel=>exact ⟨m+1,by omega,by go_num,l.trans (Below.mono ⟨d.os,d.tape,d.output,d.size,d.block⟩ R)⟩
    case measure=>simp [intOf];omega
   ·have ag:(k==(m:Int))=false:=aA.2 o
    have ak:((m:Int)==k)=false:=aA.2 (fun e=>o e.symm)
    clear o
    go_wp2
    go_region_held3 (fun w'=>w'.cell? ⟨w.heap.size+1,0,none⟩=some (.pointer (some ⟨b,0,none⟩))∧w'.cell? ⟨b,0,none⟩=some (.int .i64 k))
     (first | go_keep | exact ⟨(d.cell (p:=⟨w.heap.size+1,0,none⟩) (fO U.out)).trans Z,(d.cell (p:=⟨b,0,none⟩) (fO D.out)).trans kr⟩)
     ((go_at_call 105;refine (vu b c k n m _ (by exact D.out)).mono ?_;rintro e w2 ⟨rfl,d⟩))
    go_wp2
    go_roundw
    case rel=>exact ⟨m+1,by omega,by go_num,l.trans (Below.mono ⟨d.os,d.tape,d.output,d.size,d.block⟩ R)⟩
    case measure=>simp [intOf];omega
  ·obtain rfl:m=15:=by omega
   go_wp2
   go_region_held3 (fun w'=>w'.cell? ⟨w.heap.size+1,0,none⟩=some (.pointer (some ⟨b,0,none⟩))∧w'.cell? ⟨b,0,none⟩=some (.int .i64 k)∧w'.cell? ⟨b,1,none⟩=some (.int .i64 n))
    (first | go_keep) (fail)
   go_wp2_with fail
   generalize u:((wr.alloc (.cells #[.int .i64 k,.int .i64 n,.int .i64 0] 34)).alloc (.cells #[.pointer none] 188)).drew=w3
   have V:Below wr.heap.size wr w3:=by rw [←u];exact (((Below.refl _ wr).alloc (af _) _).alloc (by simp) _).drew
   have s3:w3.heap.size=wr.heap.size+1+1:=by rw [←u];simp
   have f3:w3.heap[wr.heap.size]?=some (.cells #[.int .i64 k,.int .i64 n,.int .i64 0] 34 (0,0)):=by rw [←u];exact fX _ _ (fR wr _)
   have t3:w3.heap[wr.heap.size+1]?=some (.cells #[.pointer none] 188 (0,0)):=by rw [←u];have:=fR (wr.alloc (.cells #[.int .i64 k,.int .i64 n,.int .i64 0] 34)) (.cells #[.pointer none] 188);rw [aw] at this;exact this
   clear u
   have j:Below w.heap.size w w3:=(N.trans (l.mono (by omega))).trans (V.mono (by omega))
   have F:w3.heap[w.heap.size]?=some (.cells #[.int .i64 0,.int .i64 0,.int .i64 0] 34 (0,0)):=fQ V (by omega) (fQ l (by omega) R1.out)
   refine (I6 b c (wr.heap.size+1) k n w3 (fQ j J HB.out) t3 (W.new j).2).mono ?_
   rintro e q ⟨rfl,x,t4⟩
   have C:Below w.heap.size w q:=j.trans (x.below (by have:=j.size;omega) (fun i hi e=>by have e':i=wr.heap.size+1:=e;omega))
   have f4:=x.at (by show ¬wr.heap.size=wr.heap.size+1;omega) f3
   have c4:=x.at (by show ¬c=wr.heap.size+1;omega) (fQ j S X.out)
   have y:=x.at (by show ¬w.heap.size=wr.heap.size+1;omega) F
   have bc:=ab f4
   have t40:q.cell? ⟨wr.heap.size+1,0,none⟩=some (.pointer (some ⟨c,0,none⟩)):=ae _ _ 0 _ _ _ t4
   have be:q.cell? ⟨c,0,none⟩=some (.int .i64 ((s:Int)-2)):=ae _ _ 0 _ _ _ c4
   have f40:q.cell? ⟨wr.heap.size,0,none⟩=some (.int .i64 k):=ae _ _ 0 _ _ _ f4
   have f41:q.cell? ⟨wr.heap.size,1,none⟩=some (.int .i64 n):=ae _ _ 1 _ _ _ f4
   have f42:q.cell? ⟨wr.heap.size,2,none⟩=some (.int .i64 0):=ae _ _ 2 _ _ _ f4
   have bi:=aj _ _ 2 _ _ f4
   have al:q.cell? ⟨w.heap.size,0,none⟩=some (.int .i64 0):=ae _ _ 0 _ _ _ y
   have am:q.cell? ⟨w.heap.size,1,none⟩=some (.int .i64 0):=ae _ _ 1 _ _ _ y
   have ap:q.cell? ⟨w.heap.size,2,none⟩=some (.int .i64 0):=ae _ _ 2 _ _ _ y
   have z0:=aj _ _ 0 _ _ y
   have z1:=aj _ _ 1 _ _ y
   have z2:=aj _ _ 2 _ _ y
   have a6:IntKind.i64.wrap ((s:Int)-2+2)=(s:Int):=by rw [show ((s:Int)-2+2)=(s:Int) by omega];exact IntWalk.i64_in _ (by omega)
   have bk:=fO f4
   have bl:=fO y
   have bn:=fO c4
   have a7:=fO t4
   have a9:wr.heap.size≠w.heap.size:=by omega
   have av:=ab C
   have aE:w.heap.size≤wr.heap.size:=by omega
   clear f3 F y s3 t3 t4 c4 f4 x V j C
   go_wp2
   refine aI (v := .agg #[.int .i64 k,.int .i64 n,.int .i64 (s:Nat)]) (by simp [results,Tryz.results62,go_sem,al,am,ap,f40,f41,f42]) rfl ⟨rfl,?_⟩
   exact (((av.out.setCell (p:=⟨wr.heap.size,2,none⟩) aE _).setCell (p:=⟨w.heap.size,0,none⟩) (af _) _).setCell (p:=⟨w.heap.size,1,none⟩) (af _) _).setCell (p:=⟨w.heap.size,2,none⟩) (af _) _
end Go.Proofs.YtkkfmkhbdoeglabGreatDoor
