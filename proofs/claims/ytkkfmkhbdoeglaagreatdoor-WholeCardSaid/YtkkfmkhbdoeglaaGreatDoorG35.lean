/- A part of what is proved here: lemmas and contracts of single functions. No condition but those that each names. -/
import Derived.Test.YtkkfmkhbdoeglaaGreatDoorG00
import Derived.Test.YtkkfmkhbdoeglaaGreatDoorG13
set_option maxHeartbeats 4000000
set_option maxRecDepth 100000
namespace Go.Proofs.YtkkfmkhbdoeglaaGreatDoor
open Go.RowKit Go.Extern.Stop Go.Stop Go.Extern
theorem BS (x y:Value) (w:World):(binOp .eql 101 (.iface 168 x) (.iface 160 y)).run Tryz.prog w = .ok (.bool false) w :=
 run_eql_iface_types _ _ _ _ Tryz.underlying101 (by decide) w
theorem IS (v:Value) (b:TypeId) (w:World):(Instr.typeAssert (.iface 168 v) b 268 true).run Tryz.prog w = .ok (.tuple #[.nilIface,.bool false]) w:=run_typeAssert_lacksB Tryz.underlying268 (by kernel_rfl) (by kernel_rfl) v b w
theorem IT (v:Value) (b:TypeId) (w:World):(Instr.typeAssert (.iface 168 v) b 264 true).run Tryz.prog w = .ok (.tuple #[.nilIface,.bool false]) w:=run_typeAssert_lacksB Tryz.underlying264 (by kernel_rfl) (by kernel_rfl) v b w
theorem IU (v:Value) (b:TypeId) (w:World):(Instr.typeAssert (.iface 168 v) b 265 true).run Tryz.prog w = .ok (.tuple #[.nilIface,.bool false]) w:=run_typeAssert_lacksB Tryz.underlying265 (by kernel_rfl) (by kernel_rfl) v b w
theorem IL (v:Value) (m:Int) (w:World) :
  Calls Tryz.prog 128 #[.iface 168 v,.iface 160 (.int .i64 m),.bool true] w fun e w'=>e = .returned (.bool false)∧w'=w:=by
 have a1:=IS
 have a2:=IT
 have a3:=IU
 have he:=BS
 go_enter Tryz.func128,Tryz.ntmps128
 go_wp2
 refine wp_loop_rounds 1 ?_
 rw [rounds_succ]
 go_wp2
 go_ret
 exact ⟨rfl,rfl⟩
def mR (w:World) (b c:Nat) (k n:Int):Prop:=w.heap[b]?=some (.cells #[.int .i64 k,.int .i64 n,.iface 168 (.pointer (some ⟨c,0,none⟩))] 166 (0,0))
theorem xx (b c:Nat) (k n:Int) (w:World) (d:mR w b c k n) :
  Calls Tryz.prog 196 #[.pointer (some ⟨b,0,none⟩)] w fun r w'=>r = .returned (.slice (some ⟨w.heap.size,0,none⟩) 2 2)∧w'.heap[w.heap.size]?=some (.cells #[.iface 160 (.int .i64 k),.iface 168 (.pointer (some ⟨c,0,none⟩))] 101 (0,0))∧Below w.heap.size w w':=by
 unfold mR at d
 have j:=af _ _ 0 _ _ _ d
 have h2:=af _ _ 2 _ _ _ d
 have i:=fI d
 clear d
 go_enter Tryz.func196,Tryz.ntmps196
 go_wp2
 go_region
 all_goals
  go_wp2
  go_ret
  first
   | exact ⟨rfl,fL w _,((Below.refl _ w).alloc (ah _) _).drew⟩
   | exact ⟨rfl,fL w.drew _,(Below.refl _ w).drew.alloc (ah _) _⟩
theorem Ch (b c:Nat) (k n m:Int) (w:World) (j:mR w b c k n) :
  Calls Tryz.prog 128 #[.iface 114 (.pointer (some ⟨b,0,none⟩)),.iface 160 (.int .i64 m),.bool true] w fun e w'=>e = .returned (.bool (k==m))∧Below w.heap.size w w':=by
 have a1:=Ho
 have a2:=Di
 have a3:=yL
 have o:=mq
 have he:=q7
 cases d:(k==m)
 all_goals
  have l:=ae d
  clear d
  go_enter Tryz.func128,Tryz.ntmps128
  go_wp2
  refine wp_loop_rounds 1 ?_
  rw [rounds_succ]
  go_wp2_with (go_at_call 196;refine (xx b c k n _ j).mono ?_;rintro e w1 ⟨rfl,hu,i⟩;have u0:=af _ _ 0 _ _ _ hu;have u1:=af _ _ 1 _ _ _ hu;have ul:=fI hu;clear hu)
  refine wp_loop_rounds 3 ?_
  rw [rounds_succ]
  go_wp2_with (go_at_call 128;refine (Ag k m _).mono ?_;rintro e w2 ⟨rfl,rfl⟩;rw [l.out])
 ·rw [rounds_succ]
  go_wp2_with (go_at_call 128;refine (IL _ m _).mono ?_;rintro e w2 ⟨rfl,rfl⟩)
  rw [rounds_succ]
  go_wp2
  go_ret
  exact ⟨rfl,i⟩
 ·go_ret
  exact ⟨rfl,i⟩
theorem uR (b c:Nat) (k n m:Int) (w:World) (i:mR w b c k n) :
  Calls Tryz.prog 88 #[.iface 114 (.pointer (some ⟨b,0,none⟩)),.iface 160 (.int .i64 m)] w fun e w'=>e = .returned (.bool (k==m))∧Below w.heap.size w w':=by
 have j := @run_callFunc_extern Tryz.prog 127 _ ReflectliteType.typeOf Tryz.func127 (by kernel_rfl) (by kernel_rfl) (by kernel_rfl) (by kernel_rfl)
 have l := @run_callFunc_extern Tryz.prog 215 _ (ReflectliteType.method fun t => do Rtype.noPackHeld "Comparable" t; pure (.bool (← typeInfo t).comparable)) Tryz.func215 (by kernel_rfl) (by kernel_rfl) (by kernel_rfl) (by kernel_rfl)
 have o : ∀ w, (ReflectliteType.method (fun t => do Rtype.noPackHeld "Comparable" t; (fun a : TypeInfo => Value.bool a.comparable) <$> typeInfo t) #[.agg #[.pointer (some ⟨2, 160, none⟩)]]).run Tryz.prog w = .ok (.bool true) w := fun w => by kernel_rfl
 have q:=zh
 have r:=tG
 go_enter Tryz.func88,Tryz.ntmps88
 go_wp2_with (go_at_call 128;refine (Ch b c k n m _ i).mono ?_;rintro e w1 ⟨rfl,d⟩)
 go_ret
 exact ⟨rfl,d⟩
def rC (c:Addr) (B:Nat) (t:Addr) (w:World):World :=
 ((w.alloc (.cells #[.pointer (some ⟨2,169,none⟩),.pointer (some ⟨B,0,none⟩),.int .u64 150] 219)).alloc (.cells #[.pointer (some c)] 168)).setCell t (.pointer (some c))
theorem Dx (c t:Addr) (B:Nat) (m fW:Value) (w:World) (i:w.cell? ⟨B,0,none⟩=some (.pointer (some t))) (b:w.cell? t=some fW) (j:w.frozen? t=false) :
  Calls Tryz.prog 126 #[.iface 168 (.pointer (some c)),m,.agg #[.pointer (some ⟨2,169,none⟩),.pointer (some ⟨B,0,none⟩),.int .u64 150],.iface 257 (.agg #[.pointer (some ⟨2,168,none⟩)])] w fun e w'=>e = .returned (.bool true)∧w'=rC c B t w:=by
 have o := @run_callFunc_extern Tryz.prog 123 _ (fun args=>ReflectliteValue.unpack (args.getD 0 (.tuple #[]))) Tryz.func123 (by kernel_rfl) (by kernel_rfl) (by kernel_rfl) (by kernel_rfl)
 have q := @run_callFunc_extern Tryz.prog 127 _ ReflectliteType.typeOf Tryz.func127 (by kernel_rfl) (by kernel_rfl) (by kernel_rfl) (by kernel_rfl)
 have r := @run_callFunc_extern Tryz.prog 214 _ (ReflectliteType.relation "AssignableTo" ReflectliteType.assignableTo) Tryz.func214 (by kernel_rfl) (by kernel_rfl) (by kernel_rfl) (by kernel_rfl)
 have s := @run_callFunc_extern Tryz.prog 149 _ (ReflectliteValue.method (ReflectliteValue.valueError "reflectlite.Value.Elem" 0) ReflectliteValue.elem) Tryz.func149 (by kernel_rfl) (by kernel_rfl) (by kernel_rfl) (by kernel_rfl)
 have u := @run_callFunc_extern Tryz.prog 150 _ ReflectliteValue.set Tryz.func150 (by kernel_rfl) (by kernel_rfl) (by kernel_rfl) (by kernel_rfl)
 have x:=zj
 have y:=iB
 have a25:=pT
 have v25:=wH
 have d:t.block<w.heap.size:=fP b
 have l:B<w.heap.size:=fP i
 have el:=GF ⟨B,0,none⟩ t (w.alloc (.cells #[.pointer (some ⟨2,169,none⟩),.pointer (some ⟨B,0,none⟩),.int .u64 150] 219)) (by rw [bW _ _ ⟨B,0,none⟩ l];exact i)
 have st:=Ix t ⟨w.heap.size+1,0,none⟩ c fW ((w.alloc (.cells #[.pointer (some ⟨2,169,none⟩),.pointer (some ⟨B,0,none⟩),.int .u64 150] 219)).alloc (.cells #[.pointer (some c)] 168))
  (by rw [World.cell?_alloc_at _ _ _ _ (by simp)];rfl)
  (by rw [bW _ _ t (by simp <;> omega),bW _ _ t d];exact b)
  (by rw [dC _ _ t (by simp <;> omega),dC _ _ t (fF d)];exact j)
 go_enter Tryz.func126,Tryz.ntmps126
 go_wp2
 refine wp_loop_rounds 1 ?_
 rw [rounds_succ]
 go_wp2
 go_ret
 exact ⟨rfl,rfl⟩
theorem Bs (b c B d:Nat) (k n:Int) (F:Value) (w:World) (u:mR w b c k n) (x:w.cell? ⟨B,0,none⟩=some (.pointer (some ⟨d,0,none⟩))) (y:w.heap[d]?=some (.cells #[.pointer none] 168 (0,0))) :
  Calls Tryz.prog 126 #[.iface 114 (.pointer (some ⟨b,0,none⟩)),F,.agg #[.pointer (some ⟨2,169,none⟩),.pointer (some ⟨B,0,none⟩),.int .u64 150],.iface 257 (.agg #[.pointer (some ⟨2,168,none⟩)])] w fun e w'=>e = .returned (.bool true)∧Ext (fun k=>k=d) w w'∧w'.heap[d]?=some (.cells #[.pointer (some ⟨c,0,none⟩)] 168 (0,0)):=by
 have N := @run_callFunc_extern Tryz.prog 127 _ ReflectliteType.typeOf Tryz.func127 (by kernel_rfl) (by kernel_rfl) (by kernel_rfl) (by kernel_rfl)
 have O := @run_callFunc_extern Tryz.prog 214 _ (ReflectliteType.relation "AssignableTo" ReflectliteType.assignableTo) Tryz.func214 (by kernel_rfl) (by kernel_rfl) (by kernel_rfl) (by kernel_rfl)
 have Q:=zi
 have R:=iB
 have S:=rT
 have a1:=Hn
 have a2:=Di
 have a3:=yL
 have U:=mq
 have C:=fI u
 have D:B<w.heap.size:=fP x
 have o:=fI y
 have s:=ae y
 have G:=ae x
 go_enter Tryz.func126,Tryz.ntmps126
 go_wp2
 refine wp_loop_rounds 1 ?_
 rw [rounds_succ]
 go_wp2_with (go_at_call 196;refine (xx b c k n _ ((Below.heap_alloc _ _ _ C).trans u)).mono ?_;rintro e w1 ⟨rfl,hu,q⟩;have m:=fK q (fI (fL w (.cells #[.pointer (some ⟨2,169,none⟩),.pointer (some ⟨B,0,none⟩),.int .u64 150] 219))) (fL w (.cells #[.pointer (some ⟨2,169,none⟩),.pointer (some ⟨B,0,none⟩),.int .u64 150] 219));have v0:=af _ _ 0 _ _ _ m;have v1:=af _ _ 1 _ _ _ m;have v2:=af _ _ 2 _ _ _ m;have HV:=ae m;have r:=fI m;clear m;simp only [ax] at hu⊢;have u0:=af _ _ 0 _ _ _ hu;have u1:=af _ _ 1 _ _ _ hu;have ul:=fI hu;have E:=ae (show Below w.heap.size w w1 from ((Below.refl _ w).alloc (ah _) _).tn q);clear hu q)
 refine wp_loop_rounds 3 ?_
 rw [rounds_succ]
 go_wp2_with (go_at_call 126;refine (zE k _ _ _ _ _).mono ?_;rintro e w2 ⟨rfl,l⟩;have I:=(l.cell (p:=⟨w.heap.size+1,1,none⟩) (by first | exact ul | simpa using ul)).trans (by first | exact u1 | simpa using u1);have i:=ae (E.out.tn l);have V:=fP I;have j:=fK l r HV.out;have W:=af _ _ 0 _ _ _ j;have X:=af _ _ 1 _ _ _ j;have Y:=af _ _ 2 _ _ _ j;have J:=fI j;clear l u0 u1 ul v0 v1 v2 r j)
 rw [rounds_succ]
 go_wp2_with (go_at_call 126;refine (Dx ⟨c,0,none⟩ ⟨d,0,none⟩ B _ (.pointer none) _ ((i.out.cell (p:=⟨B,0,none⟩) D).trans G.out) (af _ _ 0 _ _ _ (fK i.out o s.out)) (ao _ _ 0 _ _ (fK i.out o s.out))).mono ?_;rintro e w3 ⟨rfl,rfl⟩)
 go_ret
 have M:Ext (fun k=>k=d) w2 (rC ⟨c,0,none⟩ B ⟨d,0,none⟩ w2):=(((Ext.refl _ w2).alloc _).alloc _).setCell ⟨d,0,none⟩ _ (.inl rfl)
 exact ⟨rfl,(Ext.fM i.out).trans M,by unfold rC;exact heap_setCell _ _ 0 _ (fQ _ _ (fQ _ _ (fK i.out o s.out)))⟩
theorem IC (b c d:Nat) (k n:Int) (w:World) (j:mR w b c k n) (l:w.heap[d]?=some (.cells #[.pointer none] 168 (0,0))) (m:w.cell? ⟨0,0,none⟩=some (.iface 257 (.agg #[.pointer (some ⟨2,101,none⟩)]))) :
  Calls Tryz.prog 86 #[.iface 114 (.pointer (some ⟨b,0,none⟩)),.iface 169 (.pointer (some ⟨d,0,none⟩))] w fun ev w'=>ev = .returned (.bool true)∧Ext (fun k=>k=d) w w'∧w'.heap[d]?=some (.cells #[.pointer (some ⟨c,0,none⟩)] 168 (0,0)):=by
 have D := @run_callFunc_extern Tryz.prog 123 _ (fun args=>ReflectliteValue.unpack (args.getD 0 (.tuple #[]))) Tryz.func123 (by kernel_rfl) (by kernel_rfl) (by kernel_rfl) (by kernel_rfl)
 have E := @run_callFunc_extern Tryz.prog 124 _ (ReflectliteValue.methodAny (ReflectliteValue.valueError "reflectlite.Value.Type" 0) (fun t _ _ _ => ReflectliteType.toType t)) Tryz.func124 (by kernel_rfl) (by kernel_rfl) (by kernel_rfl) (by kernel_rfl)
 have F := @run_callFunc_extern Tryz.prog 125 _ (ReflectliteValue.method (ReflectliteValue.valueError "reflectlite.Value.IsNil" 0) ReflectliteValue.isNil) Tryz.func125 (by kernel_rfl) (by kernel_rfl) (by kernel_rfl) (by kernel_rfl)
 have G := @run_callFunc_extern Tryz.prog 191 _ (ReflectliteType.abiMethod fun t=>do pure (.int .u8 (←Rtype.kind t))) Tryz.func191 (by kernel_rfl) (by kernel_rfl) (by kernel_rfl) (by kernel_rfl)
 have I := @run_callFunc_extern Tryz.prog 216 _ (ReflectliteType.method ReflectliteType.elem) Tryz.func216 (by kernel_rfl) (by kernel_rfl) (by kernel_rfl) (by kernel_rfl)
 have J := @run_callFunc_extern Tryz.prog 217 _ (ReflectliteType.relation "Implements" ReflectliteType.implements_) Tryz.func217 (by kernel_rfl) (by kernel_rfl) (by kernel_rfl) (by kernel_rfl)
 have M := @run_callFunc_extern Tryz.prog 127 _ ReflectliteType.typeOf Tryz.func127 (by kernel_rfl) (by kernel_rfl) (by kernel_rfl) (by kernel_rfl)
 have N := @run_callFunc_extern Tryz.prog 214 _ (ReflectliteType.relation "AssignableTo" ReflectliteType.assignableTo) Tryz.func214 (by kernel_rfl) (by kernel_rfl) (by kernel_rfl) (by kernel_rfl)
 have O := @run_callFunc_extern Tryz.prog 149 _ (ReflectliteValue.method (ReflectliteValue.valueError "reflectlite.Value.Elem" 0) ReflectliteValue.elem) Tryz.func149 (by kernel_rfl) (by kernel_rfl) (by kernel_rfl) (by kernel_rfl)
 have Q := @run_callFunc_extern Tryz.prog 150 _ ReflectliteValue.set Tryz.func150 (by kernel_rfl) (by kernel_rfl) (by kernel_rfl) (by kernel_rfl)
 have R:=zj
 have S:=iB
 have a25:=pT
 have v25:=wH
 have f6:=yf
 have f7:=Gg
 have U:=rI
 have V:=rH
 have W:=me
 have x:=Fl
 have y:=Hl
 have B:=E8
 have i25:=tQ
 have n8:=Dg ⟨w.heap.size,0,none⟩ ⟨d,0,none⟩ ((w.alloc (.cells #[.pointer (some ⟨d,0,none⟩)] 169)).alloc (.cells #[.pointer (some ⟨2,169,none⟩),.pointer (some ⟨w.heap.size,0,none⟩),.int .u64 150] 219)) (by simp)
 have o:0<w.heap.size:=fP m
 have C:((w.alloc (.cells #[.pointer (some ⟨d,0,none⟩)] 169)).alloc (.cells #[.pointer (some ⟨2,169,none⟩),.pointer (some ⟨w.heap.size,0,none⟩),.int .u64 150] 219)).cell? ⟨0,0,none⟩=some (.iface 257 (.agg #[.pointer (some ⟨2,101,none⟩)])):=by
  rw [bW _ _ ⟨0,0,none⟩ (by simp <;> omega),bW _ _ ⟨0,0,none⟩ o];exact m
 have i:Below w.heap.size w ((w.alloc (.cells #[.pointer (some ⟨d,0,none⟩)] 169)).alloc (.cells #[.pointer (some ⟨2,169,none⟩),.pointer (some ⟨w.heap.size,0,none⟩),.int .u64 150] 219)):=Below.al (Below.al (Below.rf w) _) _
 have q:=ae (Bs b c w.heap.size d k n (.iface 169 (.pointer (some ⟨d,0,none⟩))) _ (fK i (fI j) j) (af _ _ 0 _ _ _ (fQ _ _ (fL w _))) (fK i (fI l) l))
 have r:=ae i
 clear i j l
 go_enter Tryz.func86,Tryz.ntmps86
 go_wp2_with (go_at_call 126;refine q.out.mono ?_;rintro e w1 ⟨rfl,s,u⟩)
 go_ret
 exact ⟨rfl,(Ext.fM r.out).trans s,u⟩
theorem xg (b c:Nat) (k n:Int) (s:Nat) (w:World) (W:ErrVar w) (E:mR w b c k n) (hc:w.heap[c]?=some (.cells #[.int .i64 ((s:Int)-2)] 171 (0,0))) (hs:s≤100000) (h1:1≤k) (h2:k≤14) :
  Calls Tryz.prog 45 #[.iface 114 (.pointer (some ⟨b,0,none⟩))] w fun e w'=>e = .returned (.agg #[.int .i64 k,.int .i64 n,.int .i64 (s:Nat)])∧Below w.heap.size w w':=by
 unfold mR at E
 have J:=fI E
 have S:=fI hc
 have X:=ae hc
 clear hc
 go_enter Tryz.func45,Tryz.ntmps45
 go_wp2_with fail
 generalize r:(w.alloc (.cells #[.int .i64 0,.int .i64 0,.int .i64 0] 38)).alloc (.cells #[.pointer none] 114)=B
 have Y:B.heap.size=w.heap.size+1+1:=by rw [←r];simp
 have e0:Below w.heap.size w B:=by rw [←r];exact ((Below.refl _ w).alloc (ah _) _).alloc (by simp) _
 have r0:B.heap[w.heap.size]?=some (.cells #[.int .i64 0,.int .i64 0,.int .i64 0] 38 (0,0)):=by rw [←r];exact fQ _ _ (fL w _)
 have t0:B.heap[w.heap.size+1]?=some (.cells #[.pointer none] 114 (0,0)):=by rw [←r];have:=fL (w.alloc (.cells #[.int .i64 0,.int .i64 0,.int .i64 0] 38)) (.cells #[.pointer none] 114);simpa using this
 clear r
 refine (uD ⟨b,0,none⟩ ⟨w.heap.size+1,0,none⟩ (.pointer none) B (W.new e0).2 (af _ _ 0 _ _ _ t0) (by rw [ao _ _ 0 _ _ t0]) ).mono ?_
 rintro e w1 ⟨rfl,M⟩
 have G:=si ⟨b,0,none⟩ ⟨w.heap.size+1,0,none⟩ B
 have t1:=uH ⟨b,0,none⟩ (w.heap.size+1) B t0
 rw [←M] at G t1
 clear M
 have N:Below w.heap.size w w1:=e0.trans (G.below (by omega) (fun k hk e=>by simp only at e;omega))
 have I:=fK N J E
 have c1:w1.cell? ⟨w.heap.size+1,0,none⟩=some (.pointer (some ⟨b,0,none⟩)):=af _ _ 0 _ _ _ t1
 have k1:w1.cell? ⟨b,0,none⟩=some (.int .i64 k):=af _ _ 0 _ _ _ I
 have n1:w1.cell? ⟨b,1,none⟩=some (.int .i64 n):=af _ _ 1 _ _ _ I
 have a9:(k==0)=false:=by rw [aD];omega
 have S1:=ae Y
 have ba:w.heap.size+2≤w1.heap.size:=by have:=G.size;omega
 have HB:=ae E
 have O:=ae I
 have Q:=ae t1
 have R1:=ae (G.at (fun e=>by simp only at e;omega) r0)
 clear Y E I t1 r0 t0
 go_wp2
 go_loopw [4] (fun c wr=>∃ m:Nat,m≤15∧c = .int .i64 m∧Below w1.heap.size w1 wr) (fun c _=>15-(intOf c).toNat)
 case atStart=>exact ⟨0,by omega,rfl,Below.refl _ _⟩
 case round =>
  obtain ⟨m,hm,rfl,l⟩:=hrel
  have R:=l.size
  have D:=ae (fK l (fI O.out) O.out)
  have U:=ae (fK l (fI Q.out) Q.out)
  have Z:wr.cell? ⟨w.heap.size+1,0,none⟩=some (.pointer (some ⟨b,0,none⟩)):=af _ _ 0 _ _ _ U.out
  have kr:wr.cell? ⟨b,0,none⟩=some (.int .i64 k):=af _ _ 0 _ _ _ D.out
  have nr:wr.cell? ⟨b,1,none⟩=some (.int .i64 n):=af _ _ 1 _ _ _ D.out
  clear c1 k1 n1
  by_cases aE:m<15
  ·by_cases o:k=(m:Int)
   ·have ab:(k==(m:Int))=true:=bj.2 o
    have ag:((m:Int)==k)=true:=bj.2 o.symm
    clear o
    go_wp2
    go_region_held3 (fun w'=>w'.cell? ⟨w.heap.size+1,0,none⟩=some (.pointer (some ⟨b,0,none⟩))∧w'.cell? ⟨b,0,none⟩=some (.int .i64 k))
     (first | go_keep | exact ⟨(d.cell (p:=⟨w.heap.size+1,0,none⟩) (fI U.out)).trans Z,(d.cell (p:=⟨b,0,none⟩) (fI D.out)).trans kr⟩)
     ((go_at_call 88;refine (uR b c k n m _ (by exact D.out)).mono ?_;rintro e w2 ⟨rfl,d⟩))
    go_wp2
    go_roundw
    case rel=>exact ⟨m+1,by omega,by go_num,l.trans (Below.mono ⟨d.os,d.tape,d.output,d.size,d.block⟩ R)⟩
    case measure=>simp [intOf];omega
   ·have ab:(k==(m:Int))=false:=aD.2 o
    have ag:((m:Int)==k)=false:=aD.2 (fun e=>o e.symm)
    clear o
    go_wp2
    go_region_held3 (fun w'=>w'.cell? ⟨w.heap.size+1,0,none⟩=some (.pointer (some ⟨b,0,none⟩))∧w'.cell? ⟨b,0,none⟩=some (.int .i64 k))
     (first | go_keep | exact ⟨(d.cell (p:=⟨w.heap.size+1,0,none⟩) (fI U.out)).trans Z,(d.cell (p:=⟨b,0,none⟩) (fI D.out)).trans kr⟩)
     ((go_at_call 88;refine (uR b c k n m _ (by exact D.out)).mono ?_;rintro e w2 ⟨rfl,d⟩))
    go_wp2
    go_roundw
    case rel=>exact ⟨m+1,by omega,by go_num,l.trans (Below.mono ⟨d.os,d.tape,d.output,d.size,d.block⟩ R)⟩
    case measure=>simp [intOf];omega
  ·obtain rfl:m=15:=by omega
   go_wp2
   go_region_held3 (fun w'=>w'.cell? ⟨w.heap.size+1,0,none⟩=some (.pointer (some ⟨b,0,none⟩))∧w'.cell? ⟨b,0,none⟩=some (.int .i64 k)∧w'.cell? ⟨b,1,none⟩=some (.int .i64 n))
    (first | go_keep) (fail)
   go_wp2_with fail
   generalize u:((wr.alloc (.cells #[.int .i64 k,.int .i64 n,.int .i64 0] 38)).alloc (.cells #[.pointer none] 168)).drew=w3
   have V:Below wr.heap.size wr w3:=by rw [←u];exact (((Below.refl _ wr).alloc (ah _) _).alloc (by simp) _).drew
   have s3:w3.heap.size=wr.heap.size+1+1:=by rw [←u];simp
   have f3:w3.heap[wr.heap.size]?=some (.cells #[.int .i64 k,.int .i64 n,.int .i64 0] 38 (0,0)):=by rw [←u];exact fQ _ _ (fL wr _)
   have t3:w3.heap[wr.heap.size+1]?=some (.cells #[.pointer none] 168 (0,0)):=by rw [←u];have:=fL (wr.alloc (.cells #[.int .i64 k,.int .i64 n,.int .i64 0] 38)) (.cells #[.pointer none] 168);rw [ax] at this;exact this
   clear u
   have j:Below w.heap.size w w3:=(N.trans (l.mono (by omega))).trans (V.mono (by omega))
   have F:w3.heap[w.heap.size]?=some (.cells #[.int .i64 0,.int .i64 0,.int .i64 0] 38 (0,0)):=fK V (by omega) (fK l (by omega) R1.out)
   refine (IC b c (wr.heap.size+1) k n w3 (fK j J HB.out) t3 (W.new j).2).mono ?_
   rintro e q ⟨rfl,x,t4⟩
   have C:Below w.heap.size w q:=j.trans (x.below (by have:=j.size;omega) (fun i hi e=>by have e':i=wr.heap.size+1:=e;omega))
   have f4:=x.at (by show ¬wr.heap.size=wr.heap.size+1;omega) f3
   have c4:=x.at (by show ¬c=wr.heap.size+1;omega) (fK j S X.out)
   have y:=x.at (by show ¬w.heap.size=wr.heap.size+1;omega) F
   have bb:=ae f4
   have t40:q.cell? ⟨wr.heap.size+1,0,none⟩=some (.pointer (some ⟨c,0,none⟩)):=af _ _ 0 _ _ _ t4
   have bc:q.cell? ⟨c,0,none⟩=some (.int .i64 ((s:Int)-2)):=af _ _ 0 _ _ _ c4
   have f40:q.cell? ⟨wr.heap.size,0,none⟩=some (.int .i64 k):=af _ _ 0 _ _ _ f4
   have f41:q.cell? ⟨wr.heap.size,1,none⟩=some (.int .i64 n):=af _ _ 1 _ _ _ f4
   have f42:q.cell? ⟨wr.heap.size,2,none⟩=some (.int .i64 0):=af _ _ 2 _ _ _ f4
   have bi:=ao _ _ 2 _ _ f4
   have ak:q.cell? ⟨w.heap.size,0,none⟩=some (.int .i64 0):=af _ _ 0 _ _ _ y
   have al:q.cell? ⟨w.heap.size,1,none⟩=some (.int .i64 0):=af _ _ 1 _ _ _ y
   have am:q.cell? ⟨w.heap.size,2,none⟩=some (.int .i64 0):=af _ _ 2 _ _ _ y
   have z0:=ao _ _ 0 _ _ y
   have z1:=ao _ _ 1 _ _ y
   have z2:=ao _ _ 2 _ _ y
   have a5:IntKind.i64.wrap ((s:Int)-2+2)=(s:Int):=by rw [show ((s:Int)-2+2)=(s:Int) by omega];exact IntWalk.i64_in _ (by omega)
   have bk:=fI f4
   have bl:=fI y
   have bn:=fI c4
   have a6:=fI t4
   have a7:wr.heap.size≠w.heap.size:=by omega
   have ap:=ae C
   have av:w.heap.size≤wr.heap.size:=by omega
   clear f3 F y s3 t3 t4 c4 f4 x V j C
   go_wp2
   refine aK (v := .agg #[.int .i64 k,.int .i64 n,.int .i64 (s:Nat)]) (by simp [results,Tryz.results45,go_sem,ak,al,am]) rfl ⟨rfl,?_⟩
   exact (((ap.out.setCell (p:=⟨wr.heap.size,2,none⟩) av _).setCell (p:=⟨w.heap.size,0,none⟩) (ah _) _).setCell (p:=⟨w.heap.size,1,none⟩) (ah _) _).setCell (p:=⟨w.heap.size,2,none⟩) (ah _) _
end Go.Proofs.YtkkfmkhbdoeglaaGreatDoor
