/- A part of what is proved here: lemmas and contracts of single functions. No condition but those that each names. -/
import Derived.Test.YtkkfmkhbdoeglabGreatDoorG00
import Derived.Deep.DeepCutAuto
import Derived.Test.YtkkfmkhbdoeglabGreatDoorG02
import Derived.Test.YtkkfmkhbdoeglabGreatDoorG03
import Derived.Test.YtkkfmkhbdoeglabGreatDoorG08
import Derived.Test.YtkkfmkhbdoeglabGreatDoorG12
set_option maxHeartbeats 1000000
set_option maxRecDepth 100000
namespace Go.Proofs.YtkkfmkhbdoeglabGreatDoor
open Go.RowKit Go.Extern.Stop Go.Stop Go.Extern
theorem vW {P:Program} (w:World) (d:Nat) {m tn:TypeId} {ms:Array (String×TypeId)} {i:TypeInfo} {k:IntKind} (a b:Int)
  (o:P.underlying m=some (.interface ms)) (q:P.underlying tn=some (.int k)) (j:P.info? tn=some i) (l:i.comparable=true) :
  (Op.equalIn (d+2) m (.iface tn (.int k a)) (.iface tn (.int k b))).run P w = .ok (a==b) w:=by
 simp [Op.equalIn,aL o,aL q,typeInfo,j,l]
theorem FO (a b:Int) (w:World):(binOp .eql 128 (.iface 184 (.int .i64 a)) (.iface 184 (.int .i64 b))).run Tryz.prog w = .ok (.bool (a==b)) w:=by
 have hc:(Tryz.prog.info? 184).map (·.comparable)=some true:=by kernel_rfl
 obtain ⟨i,j,d⟩:=ck.1 hc
 have h:=vW (P:=Tryz.prog) w 9998 a b Tryz.underlying128 Tryz.underlying184 j d
 simp only [binOp]
 simp [Op.equal,Op.maxDepth,h]
theorem rj (x y:Value) (w:World):(binOp .eql 128 (.iface 171 x) (.iface 184 y)).run Tryz.prog w = .ok (.bool false) w :=
 run_eql_iface_types _ _ _ _ Tryz.underlying128 (by decide) w
theorem ud (w : World) : (Go.method 470 286 (.agg #[.pointer (some ⟨2, 184, none⟩)]) "Comparable").run Tryz.prog w = .ok (258, .agg #[.pointer (some ⟨2, 184, none⟩)]) w := by kernel_rfl
theorem AI (k m:Int) (w:World) :
  Calls Tryz.prog 146 #[.iface 184 (.int .i64 k),.iface 184 (.int .i64 m),.bool true] w fun e w'=>e = .returned (.bool (k==m))∧w=w':=by
 have a1:=Jj
 have a2:=Is
 have a3:=It
 have he:=FO
 cases b:(k==m)
 ·go_enter Tryz.func146,Tryz.ntmps146
  go_wp2
  refine wp_loop_rounds 1 ?_
  rw [rounds_succ]
  go_wp2
  go_ret
  exact ⟨rfl,rfl⟩
 ·go_enter Tryz.func146,Tryz.ntmps146
  go_wp2
  refine wp_loop_rounds 1 ?_
  rw [rounds_succ]
  go_wp2
  go_ret
  exact ⟨rfl,rfl⟩
theorem FX (b:Nat) (k n m:Int) (w:World) (i:w.heap[b]?=some (.cells #[.int .i64 k,.int .i64 n,.nilIface] 186 (0,0))) :
  Calls Tryz.prog 146 #[.iface 171 (.pointer (some ⟨b,0,none⟩)),.iface 184 (.int .i64 m),.bool true] w fun e w'=>e = .returned (.bool (k==m))∧Below w.heap.size w w':=by
 have a1:=Ir
 have a2:=DS
 have a3:=zm
 have l:=mL
 have he:=rj
 cases d:(k==m)
 all_goals
  have j:=ab d
  clear d
  go_enter Tryz.func146,Tryz.ntmps146
  go_wp2
  refine wp_loop_rounds 1 ?_
  rw [rounds_succ]
  go_wp2_with (go_at_call 246;refine (vA ⟨b,0,none⟩ k _ (ae _ b 0 _ _ _ i) (ae _ b 2 _ _ _ i) rfl).mono ?_;rintro e w' ⟨rfl,rfl⟩)
  refine wp_loop_rounds 2 ?_
  rw [rounds_succ]
  go_wp2_with (go_at_call 146;refine (AI k m _).mono ?_;rintro e w1 ⟨rfl,rfl⟩;rw [j.out])
 ·rw [rounds_succ]
  go_wp2
  go_ret
  exact ⟨rfl,(Below.refl _ w).alloc (af _) _⟩
 ·go_ret
  exact ⟨rfl,(Below.refl _ w).alloc (af _) _⟩
theorem zU (b:Nat) (k n m:Int) (w:World) (i:w.heap[b]?=some (.cells #[.int .i64 k,.int .i64 n,.nilIface] 186 (0,0))) :
  Calls Tryz.prog 105 #[.iface 171 (.pointer (some ⟨b,0,none⟩)),.iface 184 (.int .i64 m)] w fun e w'=>e = .returned (.bool (k==m))∧Below w.heap.size w w':=by
 have j := @run_callFunc_extern Tryz.prog 145 _ ReflectliteType.typeOf Tryz.func145 (by kernel_rfl) (by kernel_rfl) (by kernel_rfl) (by kernel_rfl)
 have l := @run_callFunc_extern Tryz.prog 258 _ (ReflectliteType.method fun t => do Rtype.noPackHeld "Comparable" t; pure (.bool (← typeInfo t).comparable)) Tryz.func258 (by kernel_rfl) (by kernel_rfl) (by kernel_rfl) (by kernel_rfl)
 have o : ∀ w, (ReflectliteType.method (fun t => do Rtype.noPackHeld "Comparable" t; (fun a : TypeInfo => Value.bool a.comparable) <$> typeInfo t) #[.agg #[.pointer (some ⟨2, 184, none⟩)]]).run Tryz.prog w = .ok (.bool true) w := fun w => by kernel_rfl
 have q:=zJ
 have r:=ud
 go_enter Tryz.func105,Tryz.ntmps105
 go_wp2_with (go_at_call 146;refine (FX b k n m _ i).mono ?_;rintro e w1 ⟨rfl,d⟩)
 go_ret
 exact ⟨rfl,d⟩
end Go.Proofs.YtkkfmkhbdoeglabGreatDoor
namespace Go.Proofs.YtkkfmkhbdoeglabGreatDoor
open Go.RowKit Go.Extern.Stop Go.Stop Go.Extern
theorem oW (w:World):Calls Tryz.prog 62 #[.nilIface] w fun e w'=>e = .returned (.agg #[.int .i64 0,.int .i64 0,.int .i64 0])∧Below w.heap.size w w':=by
 go_enter Tryz.func62,Tryz.ntmps62
 go_wp2
 exact aI (v := .agg #[.int .i64 0,.int .i64 0,.int .i64 0]) (by simp [results,Tryz.results62,go_sem]) rfl ⟨rfl,(Below.refl _ w).alloc (af _) _⟩
theorem sD (e t:Addr) (w:World):Ext (fun k=>k=t.block) w (tC e t w) :=
 Ext.setCell (((((Ext.refl _ w).alloc _).alloc _).alloc _).alloc _) t _ (.inl rfl)
theorem vf (e:Addr) (t:Nat) (w:World) {T:TypeId} {gr:Value} (h:w.heap[t]?=some (.cells #[gr] T (0,0))):(tC e ⟨t,0,none⟩ w).heap[t]?=some (.cells #[.pointer (some e)] T (0,0)) :=
 heap_setCell _ t 0 _ (fX _ _ (fX _ _ (fX _ _ (fX _ _ h))))
theorem mQ (b:Nat) (k n:Int) (w:World) (S:ErrVar w) (D:w.heap[b]?=some (.cells #[.int .i64 k,.int .i64 n,.nilIface] 186 (0,0))) (h1:1≤k) (h2:k≤14) :
  Calls Tryz.prog 62 #[.iface 171 (.pointer (some ⟨b,0,none⟩))] w fun e w'=>e = .returned (.agg #[.int .i64 k,.int .i64 n,.int .i64 0])∧Below w.heap.size w w':=by
 have I:=fO D
 have U:∀ o,(w.alloc (.cells #[.int .i64 0,.int .i64 0,.int .i64 0] 34)).heap[w.heap.size+1]?=o→True:=fun _ _=>cL
 clear U
 go_enter Tryz.func62,Tryz.ntmps62
 go_wp2_with fail
 generalize q:(w.alloc (.cells #[.int .i64 0,.int .i64 0,.int .i64 0] 34)).alloc (.cells #[.pointer none] 171)=s
 have V:s.heap.size=w.heap.size+1+1:=by rw [←q];simp
 have e0:Below w.heap.size w s:=by rw [←q];exact ((Below.refl _ w).alloc (af _) _).alloc (by simp) _
 have r0:s.heap[w.heap.size]?=some (.cells #[.int .i64 0,.int .i64 0,.int .i64 0] 34 (0,0)):=by rw [←q];exact fX _ _ (fR w _)
 have t0:s.heap[w.heap.size+1]?=some (.cells #[.pointer none] 171 (0,0)):=by rw [←q];have:=fR (w.alloc (.cells #[.int .i64 0,.int .i64 0,.int .i64 0] 34)) (.cells #[.pointer none] 171);simpa using this
 clear q
 refine (uY ⟨b,0,none⟩ ⟨w.heap.size+1,0,none⟩ (.pointer none) s (S.new e0).2 (ae _ _ 0 _ _ _ t0) (by rw [aj _ _ 0 _ _ t0]) ).mono ?_
 rintro e w1 ⟨rfl,J⟩
 have E:=sD ⟨b,0,none⟩ ⟨w.heap.size+1,0,none⟩ s
 have t1:=vf ⟨b,0,none⟩ (w.heap.size+1) s t0
 rw [←J] at E t1
 clear J
 have M:Below w.heap.size w w1:=e0.trans (E.below (by omega) (fun k hk e=>by simp only at e;omega))
 have F:=fQ M I D
 have c1:w1.cell? ⟨w.heap.size+1,0,none⟩=some (.pointer (some ⟨b,0,none⟩)):=ae _ _ 0 _ _ _ t1
 have k1:w1.cell? ⟨b,0,none⟩=some (.int .i64 k):=ae _ _ 0 _ _ _ F
 have n1:w1.cell? ⟨b,1,none⟩=some (.int .i64 n):=ae _ _ 1 _ _ _ F
 have a2:(k==0)=false:=by rw [aA];omega
 have S1:=ab V
 have a3:w.heap.size+2≤w1.heap.size:=by have:=E.size;omega
 have HB:=ab D
 have N:=ab F
 have O:=ab t1
 have R1:=ab (E.at (fun e=>by simp only at e;omega) r0)
 clear V D F t1 r0 t0
 go_wp2
 go_loopw [4] (fun c wr=>∃ m:Nat,m≤15∧c = .int .i64 m∧Below w1.heap.size w1 wr) (fun c _=>15-(intOf c).toNat)
 case atStart=>exact ⟨0,by omega,rfl,Below.refl _ _⟩
 case round =>
  obtain ⟨m,hm,rfl,i⟩:=hrel
  have Q:=i.size
  have B:=ab (fQ i (fO N.out) N.out)
  have R:=ab (fQ i (fO O.out) O.out)
  have W:wr.cell? ⟨w.heap.size+1,0,none⟩=some (.pointer (some ⟨b,0,none⟩)):=ae _ _ 0 _ _ _ R.out
  have X:wr.cell? ⟨b,0,none⟩=some (.int .i64 k):=ae _ _ 0 _ _ _ B.out
  have nr:wr.cell? ⟨b,1,none⟩=some (.int .i64 n):=ae _ _ 1 _ _ _ B.out
  clear c1 k1 n1
  by_cases am:m<15
  ·by_cases j:k=(m:Int)
   ·have Y:(k==(m:Int))=true:=a8.2 j
    have Z:((m:Int)==k)=true:=a8.2 j.symm
    clear j
    go_wp2
    go_region_held3 (fun w'=>w'.cell? ⟨w.heap.size+1,0,none⟩=some (.pointer (some ⟨b,0,none⟩))∧w'.cell? ⟨b,0,none⟩=some (.int .i64 k))
     (first | go_keep | exact ⟨(d.cell (p:=⟨w.heap.size+1,0,none⟩) (fO R.out)).trans W,(d.cell (p:=⟨b,0,none⟩) (fO B.out)).trans X⟩)
     ((go_at_call 105;refine (zU b k n m _ (by exact B.out)).mono ?_;rintro e w2 ⟨rfl,d⟩))
    go_wp2
    go_roundw
    case rel=>exact ⟨m+1,by omega,by go_num,i.trans (Below.mono ⟨d.os,d.tape,d.output,d.size,d.block⟩ Q)⟩
    case measure=>simp [intOf];omega
   ·have Y:(k==(m:Int))=false:=aA.2 j
    have Z:((m:Int)==k)=false:=aA.2 (fun e=>j e.symm)
    clear j
    go_wp2
    go_region_held3 (fun w'=>w'.cell? ⟨w.heap.size+1,0,none⟩=some (.pointer (some ⟨b,0,none⟩))∧w'.cell? ⟨b,0,none⟩=some (.int .i64 k))
     (first | go_keep | exact ⟨(d.cell (p:=⟨w.heap.size+1,0,none⟩) (fO R.out)).trans W,(d.cell (p:=⟨b,0,none⟩) (fO B.out)).trans X⟩)
     ((go_at_call 105;refine (zU b k n m _ (by exact B.out)).mono ?_;rintro e w2 ⟨rfl,d⟩))
    go_wp2
    go_roundw
    case rel=>exact ⟨m+1,by omega,by go_num,i.trans (Below.mono ⟨d.os,d.tape,d.output,d.size,d.block⟩ Q)⟩
    case measure=>simp [intOf];omega
  ·obtain rfl:m=15:=by omega
   go_wp2
   go_region_held3 (fun w'=>w'.cell? ⟨w.heap.size+1,0,none⟩=some (.pointer (some ⟨b,0,none⟩))∧w'.cell? ⟨b,0,none⟩=some (.int .i64 k)∧w'.cell? ⟨b,1,none⟩=some (.int .i64 n))
    (first | go_keep) (fail)
   go_wp2_with fail
   generalize y:((wr.alloc (.cells #[.int .i64 k,.int .i64 n,.int .i64 0] 34)).alloc (.cells #[.pointer none] 188)).drew=w3
   have e3:Below wr.heap.size wr w3:=by rw [←y];exact (((Below.refl _ wr).alloc (af _) _).alloc (by simp) _).drew
   have s3:w3.heap.size=wr.heap.size+1+1:=by rw [←y];simp
   have f3:w3.heap[wr.heap.size]?=some (.cells #[.int .i64 k,.int .i64 n,.int .i64 0] 34 (0,0)):=by rw [←y];exact fX _ _ (fR wr _)
   clear y
   have l:Below w.heap.size w w3:=(M.trans (i.mono (by omega))).trans (e3.mono (by omega))
   have u:w3.heap[w.heap.size]?=some (.cells #[.int .i64 0,.int .i64 0,.int .i64 0] 34 (0,0)):=fQ e3 (by omega) (fQ i (by omega) R1.out)
   refine (G7 b k n ⟨wr.heap.size+1,0,none⟩ w3 (fQ l I HB.out) (S.new l).2).mono ?_
   rintro e C ⟨rfl,r⟩
   have G:=l.trans (r.mono (by have:=l.size;omega))
   have f40:C.cell? ⟨wr.heap.size,0,none⟩=some (.int .i64 k):=ae _ _ 0 _ _ _ (fQ r (fO f3) f3)
   have f41:C.cell? ⟨wr.heap.size,1,none⟩=some (.int .i64 n):=ae _ _ 1 _ _ _ (fQ r (fO f3) f3)
   have f42:C.cell? ⟨wr.heap.size,2,none⟩=some (.int .i64 0):=ae _ _ 2 _ _ _ (fQ r (fO f3) f3)
   have x:=fQ r (fO u) u
   have ag:C.cell? ⟨w.heap.size,0,none⟩=some (.int .i64 0):=ae _ _ 0 _ _ _ x
   have ak:C.cell? ⟨w.heap.size,1,none⟩=some (.int .i64 0):=ae _ _ 1 _ _ _ x
   have al:C.cell? ⟨w.heap.size,2,none⟩=some (.int .i64 0):=ae _ _ 2 _ _ _ x
   have z0:=aj _ _ 0 _ _ x
   have z1:=aj _ _ 1 _ _ x
   have z2:=aj _ _ 2 _ _ x
   clear f3 u x s3
   go_wp2
   refine aI (v := .agg #[.int .i64 k,.int .i64 n,.int .i64 0]) (by simp [results,Tryz.results62,go_sem,ag,ak,al]) rfl ⟨rfl,?_⟩
   exact ((G.setCell (p:=⟨w.heap.size,0,none⟩) (af _) _).setCell (p:=⟨w.heap.size,1,none⟩) (af _) _).setCell (p:=⟨w.heap.size,2,none⟩) (af _) _
end Go.Proofs.YtkkfmkhbdoeglabGreatDoor
namespace Go.Proofs.YtkkfmkhbdoeglabGreatDoor
open Go.RowKit
def kD (k n s:Int):Value := .agg #[.int .i64 k,.int .i64 n,.int .i64 s]
def uX (l:List UInt8):Value :=
 match ig l with
 | .inl (k,p) => .tuple #[.int .i64 k.toNat,.string ⟨p.toArray⟩,kD 0 0 0]
 | .inr (k,n) => .tuple #[.int .i64 0,.string ⟨[].toArray⟩,kD k n 0]
theorem zM (l:List UInt8) {k n:Nat} (h:ig l = .inr (k,n)):1≤k∧k≤14:=by
 by_cases hl:l.length<5
 ·unfold ig at h
  rw [aD hl] at h
  cases h;omega
 ·obtain ⟨x,p,a,b,c,d,rfl⟩:=uG l hl
  rw [nC] at h
  split at h
  ·cases h
  ·cases h;omega
theorem zY (v:Value) (l:List UInt8) (k:UInt8) (p:List UInt8) (w:World) (b:BytesAt w v l) (hl:l.length≤gF) (hu:ig l = .inl (k,p)) :
  Calls Tryz.prog 110 #[v] w fun e w'=>∃ v',e = .returned (.tuple #[.int .u8 k.toNat,v',.nilIface])∧OwnS w' w.heap.size 1 v' p.length (u8s p)∧Below w.heap.size w w' :=
 (rH v l w b hl).mono fun e w' ⟨d,h⟩=>by
  rw [hu] at h
  obtain ⟨v',h1,h2⟩:=h
  exact ⟨v',h1,h2,d⟩
theorem BW (v:Value) (l:List UInt8) (k n:Nat) (w:World) (b:BytesAt w v l) (hl:l.length≤gF) (hu:ig l = .inr (k,n)) :
  Calls Tryz.prog 110 #[v] w fun e w'=>∃ ev,e = .returned (.tuple #[.int .u8 0,.slice none 0 0,ev])∧ja w' w.heap.size ev k n∧Below w.heap.size w w' :=
 (rH v l w b hl).mono fun e w' ⟨d,h⟩=>by
  rw [hu] at h
  obtain ⟨v',h1,h2⟩:=h
  exact ⟨v',h1,h2,d⟩
theorem tL (l:List UInt8) (k:UInt8) (p:List UInt8) (w:World) (hl:l.length≤gF) (hu:ig l = .inl (k,p)) :
  Calls Tryz.prog 86 #[.string ⟨l.toArray⟩] w fun e w'=>e = .returned (.tuple #[.int .i64 k.toNat,.string ⟨p.toArray⟩,kD 0 0 0])∧Below w.heap.size w w':=by
 have F:=ab hu
 clear hu
 have hk:=k.toNat_lt
 go_enter Tryz.func86,Tryz.ntmps86
 go_wp2_with (first
  | (refine lC rfl (.tmp 9) rfl l rfl hl ?_;intro cap w1 m o y;simp only [aw] at m o y)
  | (go_at_call 110;refine (zY _ l k p _ m.bytes hl F.out).mono ?_;rintro e w2 ⟨v2,rfl,j,q⟩))
 have s:w2.heap[w.heap.size]?=some (.cells #[.int .i64 0,.int .i64 0,.int .i64 0] 34 (0,0)):=fQ q (by omega) (fQ o (by omega) (fR w _))
 have G:=q.size
 have u:Below w.heap.size w w2:=((Below.refl _ w).alloc (af _) _).trans ((o.mono (by omega)).trans (q.mono (by omega)))
 have i:=ab s
 have I:IntKind.i64.wrap (k.toNat:Int)=(k.toNat:Int):=IntWalk.i64_in _ (by omega)
 have r:=j.apart (b:=w.heap.size) (by omega)
 clear s
 go_region_held3 (fun w'=>Sem.run Tryz.prog (convert 112 9 v2) w' = .ok (.string ⟨p.toArray⟩) w')
  (first
   | exact BytesAt.convert (w:=w2.drew) j.bytes
   | exact BytesAt.convert B
   | exact BytesAt.convert (((B.gJ _ _ r).gJ _ _ r).gJ _ _ r))
  ((go_at_call 62;refine (oW _).mono ?_;rintro e w3 ⟨rfl,d⟩;
    have B:BytesAt w3 v2 p:=BytesAt.below (w:=w2.drew) j.bytes d;
    have C:w3.cell? ⟨w.heap.size,0,none⟩=some (.int .i64 0):=ae _ _ 0 _ _ _ (fQ d (fO i.out) i.out);
    have D:w3.cell? ⟨w.heap.size,1,none⟩=some (.int .i64 0):=ae _ _ 1 _ _ _ (fQ d (fO i.out) i.out);
    have E:w3.cell? ⟨w.heap.size,2,none⟩=some (.int .i64 0):=ae _ _ 2 _ _ _ (fQ d (fO i.out) i.out);
    have J:w3.frozen? ⟨w.heap.size,0,none⟩=false:=aj _ _ 0 _ _ (fQ d (fO i.out) i.out);
    have M:w3.frozen? ⟨w.heap.size,1,none⟩=false:=aj _ _ 1 _ _ (fQ d (fO i.out) i.out);
    have N:w3.frozen? ⟨w.heap.size,2,none⟩=false:=aj _ _ 2 _ _ (fQ d (fO i.out) i.out)))
 go_wp2
 refine aI (v := .tuple #[.int .i64 k.toNat,.string ⟨p.toArray⟩,.agg #[.int .i64 0,.int .i64 0,.int .i64 0]]) (by simp [results,Tryz.results86,go_sem,C,D,E]) rfl ⟨rfl,?_⟩
 have x:Below w.heap.size w2 w3:=⟨d.os,d.tape,d.output,d.size,fun k hk=>d.block k (aC hk u.size)⟩
 exact (((u.trans x).setCell (p:=⟨w.heap.size,0,none⟩) (af _) _).setCell (p:=⟨w.heap.size,1,none⟩) (af _) _).setCell (p:=⟨w.heap.size,2,none⟩) (af _) _
theorem uO (l:List UInt8) (k n:Nat) (w:World) (D:ErrVar w) (hl:l.length≤gF) (hu:ig l = .inr (k,n)) :
  Calls Tryz.prog 86 #[.string ⟨l.toArray⟩] w fun e w'=>e = .returned (.tuple #[.int .i64 0,.string ⟨[].toArray⟩,kD k n 0])∧Below w.heap.size w w':=by
 have u:=ab hu
 clear hu
 have hk:=zM l u.out
 go_enter Tryz.func86,Tryz.ntmps86
 go_wp2_with (first
  | (refine lC rfl (.tmp 9) rfl l rfl hl ?_;intro cap w1 i j x;simp only [aw] at i j x)
  | (go_at_call 110;refine (BW _ l k n _ i.bytes hl u.out).mono ?_;rintro e w2 ⟨ev,rfl,⟨g,rfl,F,q⟩,m⟩;have E:=ab q;clear q))
 have r:w2.heap[w.heap.size]?=some (.cells #[.int .i64 0,.int .i64 0,.int .i64 0] 34 (0,0)):=fQ m (by omega) (fQ j (by omega) (fR w _))
 have G:=m.size
 have o:Below w.heap.size w w2:=((Below.refl _ w).alloc (af _) _).trans ((j.mono (by omega)).trans (m.mono (by omega)))
 have d:=ab r
 have I:IntKind.i64.wrap 0=0:=by decide
 clear r
 go_region_held3 (fun w'=>Sem.run Tryz.prog (convert 112 9 (.slice none 0 0)) w' = .ok (.string ⟨[].toArray⟩) w')
  (exact BytesAt.convert (BytesAt.nil _ _ _))
  ((go_at_call 62;refine (mQ g k n _ (by exact (D.new o.drew)) (by exact E.out) (by omega) (by omega)).mono ?_;rintro e w3 ⟨rfl,b⟩;
    have y:w3.cell? ⟨w.heap.size,0,none⟩=some (.int .i64 0):=ae _ _ 0 _ _ _ (fQ b (fO d.out) d.out);
    have B:w3.cell? ⟨w.heap.size,1,none⟩=some (.int .i64 0):=ae _ _ 1 _ _ _ (fQ b (fO d.out) d.out);
    have C:w3.cell? ⟨w.heap.size,2,none⟩=some (.int .i64 0):=ae _ _ 2 _ _ _ (fQ b (fO d.out) d.out);
    have J:w3.frozen? ⟨w.heap.size,0,none⟩=false:=aj _ _ 0 _ _ (fQ b (fO d.out) d.out);
    have M:w3.frozen? ⟨w.heap.size,1,none⟩=false:=aj _ _ 1 _ _ (fQ b (fO d.out) d.out);
    have N:w3.frozen? ⟨w.heap.size,2,none⟩=false:=aj _ _ 2 _ _ (fQ b (fO d.out) d.out)))
 go_wp2
 refine aI (v := .tuple #[.int .i64 0,.string ⟨[].toArray⟩,.agg #[.int .i64 k,.int .i64 n,.int .i64 0]]) (by simp [results,Tryz.results86,go_sem,y,B,C]) rfl ⟨rfl,?_⟩
 have s:Below w.heap.size w2 w3:=⟨b.os,b.tape,b.output,b.size,fun k hk=>b.block k (aC hk o.size)⟩
 exact (((o.trans s).setCell (p:=⟨w.heap.size,0,none⟩) (af _) _).setCell (p:=⟨w.heap.size,1,none⟩) (af _) _).setCell (p:=⟨w.heap.size,2,none⟩) (af _) _
theorem uN (l:List UInt8) (w:World) (d:ErrVar w) (hl:l.length≤gF) :
  Calls Tryz.prog 86 #[.string ⟨l.toArray⟩] w fun e w'=>e = .returned (uX l)∧Below w.heap.size w w':=by
 cases h:ig l with
 | inl x =>
  refine (tL l x.1 x.2 w hl h).mono fun e w' ⟨he,b⟩=>⟨?_,b⟩
  unfold uX
  rw [h]
  exact he
 | inr x =>
  refine (uO l x.1 x.2 w d hl h).mono fun e w' ⟨he,b⟩=>⟨?_,b⟩
  unfold uX
  rw [h]
  exact he
end Go.Proofs.YtkkfmkhbdoeglabGreatDoor
namespace Go.Proofs.YtkkfmkhbdoeglabGreatDoor
open Go.RowKit
def ji (c n:Int):Int:=if c<0 then (-(c+1))%n else c%n
theorem iV (c n:Int) (b:0<n):0≤ji c n∧ji c n<n:=by
 unfold ji
 split
 ·exact ⟨Int.emod_nonneg _ (by omega),Int.emod_lt_of_pos _ b⟩
 ·exact ⟨Int.emod_nonneg _ (by omega),Int.emod_lt_of_pos _ b⟩
end Go.Proofs.YtkkfmkhbdoeglabGreatDoor
namespace Go.Proofs.YtkkfmkhbdoeglabGreatDoor
open Go.RowKit
theorem uT (q r:Nat) (S:List E) (v:Nat) (b:Value) (os:List OpB) (w:World) (_he:EntAt w q 0 r S) (hs:ix w b os) (u:ShapesVar w) (i:lF os) (f:Nat×Nat) (hw:gK v os=some f) :
  Calls Tryz.prog 93 #[.pointer (some ⟨q,0,none⟩),.agg #[.int .u64 v,b]] w fun e w'=>∃ ev,e = .returned ev∧ja w' w.heap.size ev f.1 f.2∧Below w.heap.size w w':=by
 have j:ix (w.alloc (.cells #[.int .u64 (v:Int),b] 51)) b os:=hs.below ((Below.refl _ w).alloc (af _) _)
 have x:=ab hw
 clear hw
 go_enter Tryz.func93,Tryz.ntmps93
 go_wp2_with fail
 refine (oh v b os _ j (u.alloc _) i).mono ?_
 rintro e w1 ⟨⟨rr,rfl,fp,rfl,l⟩,m⟩
 rw [x.out] at l
 obtain ⟨g,rfl,o,d⟩:=l
 have s:=ab d
 clear d
 go_wp2
 go_ret
 exact ⟨_,rfl,⟨g,rfl,by simp at o;omega,s.out⟩,((Below.refl _ w).alloc (af _) _).trans (m.mono (by simp))⟩
theorem tR (q r:Nat) (S:List E) (v:Nat) (b:Value) (os:List OpB) (w:World) (he:EntAt w q 0 r S) (hs:ix w b os) (D:ShapesVar w) (s:lF os) (hw:gK v os=none) :
  Calls Tryz.prog 93 #[.pointer (some ⟨q,0,none⟩),.agg #[.int .u64 v,b]] w fun e w'=>e = .returned .nilIface∧TabAt w' r (foldS S os)∧Ext (fun i=>i=r) w w':=by
 have j:Below w.heap.size w (w.alloc (.cells #[.int .u64 (v:Int),b] 51)):=(Below.refl _ w).alloc (af _) _
 have l:ix (w.alloc (.cells #[.int .u64 (v:Int),b] 51)) b os:=hs.below j
 have h8:os.length≤8:=by
  unfold gK at hw
  split at hw
  ·cases hw
  ·split at hw
   ·cases hw
   ·rename_i h1 h2;omega
 have F:=ab hw
 have D0:=ab (fR w (.cells #[.int .u64 (v:Int),b] 51))
 have G:=ab (he.below j)
 clear hw he
 have I:=ab l
 go_enter Tryz.func93,Tryz.ntmps93
 go_wp2_with fail
 refine (oh v b os _ l (D.alloc _) s).mono ?_
 rintro e w1 ⟨⟨rr,rfl,fp,rfl,u⟩,d⟩
 rw [F.out] at u
 obtain rfl:fp=none:=u
 have x:=ab (fQ d (by simp) D0.out)
 have d0:=ae _ _ 0 _ _ _ x.out
 have d1:=ae _ _ 1 _ _ _ x.out
 have m:=ab (G.out.below d)
 have y:=ab (I.out.below d)
 have J:Below w.heap.size w w1:=j.trans (d.mono (by simp))
 clear l hs
 go_wp2
 go_still_tail 4,(by kernel_rfl)
 go_wp2_with fail
 refine (tf q 0 r S v b os w1.drew ⟨m.out.cell,m.out.tab.gr rfl⟩ (y.out.below ((Below.refl _ w1).drew)) (by omega)).mono ?_
 rintro e w2 ⟨rfl,o,B⟩
 have C:=ab o
 clear o
 go_wp2
 go_ret
 exact ⟨rfl,C.out,((Ext.fT J).drew).trans B⟩
structure jS (w:World) (fb q r:Nat) (S:List E):Prop where
 cell:w.cell? ⟨fb,0,none⟩=some (.pointer (some ⟨q,0,none⟩))
 ent:EntAt w q 0 r S
theorem jS.below {w w':World} {fb q r:Nat} {S:List E} (h:jS w fb q r S) (b:Below w.heap.size w w'):jS w' fb q r S :=
 ⟨(b.cell (p:=⟨fb,0,none⟩) (fU h.cell)).trans h.cell,h.ent.below b⟩
theorem jS.step {w w':World} {fb q r:Nat} {S T:List E} (h:jS w fb q r S) (b:Ext (fun i=>i=r) w w') (d:TabAt w' r T):jS w' fb q r T:=⟨b.cell (nk h.cell h.ent.tab) h.cell,h.ent.step b d⟩
theorem jS.other {w w':World} {fb q r b:Nat} {S:List E} (h:jS w fb q r S) (d:Ext (fun i=>i=b) w w') (j:fb≠b) (hq:q≠b) (l:r≠b):jS w' fb q r S :=
 ⟨d.cell j h.cell,d.cell hq h.ent.cell,h.ent.tab.gr (d.block r h.ent.tab.lt l)⟩
theorem xL (w:World) :
  Calls Tryz.prog 43 #[] w fun e w'=>e = .returned (.tuple #[.pointer (some ⟨w.heap.size+2,0,none⟩),.bool true])∧jS w' (w.heap.size+2) (w.heap.size+1) w.heap.size []∧Below w.heap.size w w':=by
 go_enter Tryz.func43,Tryz.ntmps43
 go_wp2_with fail
 refine (mM _).mono ?_
 rintro e w1 ⟨rfl,he,b,d⟩
 have j:=ab he
 have i:=ab d
 clear he d
 go_wp2
 go_ret2
 rw [i.out]
 have hc:=lY w1 #[.pointer (some ⟨w.heap.size+1,0,none⟩)] 154 (0,0) 0
 rw [i.out] at hc
 exact ⟨rfl,⟨hc,j.out.below ((Below.refl _ w1).alloc (af _) _)⟩,b.alloc b.size _⟩
def nL (v:Nat) (S:List E) (os:List OpB):List E:=match gK v os with
 | none=>foldS S os
 | some _=>S
def rI (v:Nat) (os:List OpB):Value:=match gK v os with
 | none=>kD 0 0 0
 | some f=>kD f.1 f.2 0
theorem pT (fb q r:Nat) (S:List E) (v:Nat) (C:Value) (os:List OpB) (w:World) (he:jS w fb q r S) (hs:ix w C os) (hg:ShapesVar w) (O:ErrVar w) (D:lF os) (_hr:2≤r) :
  Calls Tryz.prog 46 #[.pointer (some ⟨fb,0,none⟩),.agg #[.int .u64 v,C]] w fun e w'=>e = .returned (rI v os)∧TabAt w' r (nL v S os)∧Ext (fun i=>i=r) w w':=by
 have d:Below w.heap.size w ((w.alloc (.cells #[.int .u64 (v:Int),C] 51)).alloc (.cells #[.int .i64 0,.int .i64 0,.int .i64 0] 34)):=((Below.refl _ w).alloc (af _) _).alloc (by simp) _
 have X:=fR (w.alloc (.cells #[.int .u64 (v:Int),C] 51)) (.cells #[.int .i64 0,.int .i64 0,.int .i64 0] 34)
 rw [aw] at X
 have y:=ab X
 have s:=ab (he.below d)
 have F:=ab (hs.below d)
 have G:=ab (hg.new d)
 have I:=ab (O.new d)
 have HR:Hid (r<w.heap.size):=ab he.ent.tab.lt
 have D0:=ab (fX (w.alloc (.cells #[.int .u64 (v:Int),C] 51)) (.cells #[.int .i64 0,.int .i64 0,.int .i64 0] 34) (fR w (.cells #[.int .u64 (v:Int),C] 51)))
 obtain ⟨sa,Y,rfl,-⟩:=hs.opened
 clear X he hs hg O
 go_enter Tryz.func46,Tryz.ntmps46
 go_wp2
 generalize Q:(w.alloc (.cells #[.int .u64 (v:Int),.slice sa os.length Y] 51)).alloc (.cells #[.int .i64 0,.int .i64 0,.int .i64 0] 34)=o
 rw [Q] at y s F G I d D0
 clear Q
 have a2:=d.size
 have d0:=ae _ _ 0 _ _ _ D0.out
 have d1:=ae _ _ 1 _ _ _ D0.out
 have hc:=s.out.cell
 have av:=fO y.out
 go_still_tail 5,(by kernel_rfl)
 go_wp2_with fail
 have j:Below o.heap.size o o.drew:=(Below.refl _ o).drew
 cases hw:gK v os with
 | none =>
  have J:=ab hw
  refine (tR q r S v _ os o.drew (s.out.below j).ent (F.out.below j) (G.out.new j) D hw).mono ?_
  clear hw
  rintro e w1 ⟨rfl,R,U⟩
  have u:=ab R
  clear R hc d0 d1
  have l:w.heap.size+1≠r:=by have:=HR.out;omega
  have x:=ab (U.at l (show o.drew.heap[w.heap.size+1]?=_ from y.out))
  go_wp2_with fail
  refine (oW _).mono ?_
  rintro e w2 ⟨rfl,m⟩
  have b:=ab (fQ m (fO x.out) x.out)
  have r0:=ae _ _ 0 _ _ _ b.out
  have r1:=ae _ _ 1 _ _ _ b.out
  have r2:=ae _ _ 2 _ _ _ b.out
  have f0:=aj _ _ 0 _ _ b.out
  have f1:=aj _ _ 1 _ _ b.out
  have f2:=aj _ _ 2 _ _ b.out
  have aE:=fO b.out
  have Z:=ae _ _ 0 _ _ _ (heap_setCell _ _ 2 (.int .i64 0) (heap_setCell _ _ 1 (.int .i64 0) (heap_setCell _ _ 0 (.int .i64 0) b.out)))
  have x1:=ae _ _ 1 _ _ _ (heap_setCell _ _ 2 (.int .i64 0) (heap_setCell _ _ 1 (.int .i64 0) (heap_setCell _ _ 0 (.int .i64 0) b.out)))
  have x2:=ae _ _ 2 _ _ _ (heap_setCell _ _ 2 (.int .i64 0) (heap_setCell _ _ 1 (.int .i64 0) (heap_setCell _ _ 0 (.int .i64 0) b.out)))
  have M:Ext (fun i=>i=r) w w2:=(((Ext.fT d).drew).trans U).rT m
  have V:=u.out.gr (m.block r u.out.lt)
  have HV:Hid (rI v os=kD 0 0 0):=ab (by unfold rI;rw [J.out])
  have HS:Hid (nL v S os=foldS S os):=ab (by unfold nL;rw [J.out])
  have N:=ab V
  clear V
  go_wp2
  refine aI (v := .agg #[.int .i64 0,.int .i64 0,.int .i64 0]) (by simp [results,Tryz.results46,go_sem,Z,x1,x2]) rfl ⟨by rw [HV.out];rfl,?_,?_⟩
  ·rw [HS.out]
   refine N.out.gr ?_
   rw [Below.heap_setCell _ ⟨w.heap.size+1,2,none⟩ _ r (dx l),Below.heap_setCell _ ⟨w.heap.size+1,1,none⟩ _ r (dx l),Below.heap_setCell _ ⟨w.heap.size+1,0,none⟩ _ r (dx l)]
  ·exact ((M.setCell _ _ (.inr (by simp))).setCell _ _ (.inr (by simp))).setCell _ _ (.inr (by simp))
 | some f =>
  have hk:=qE hw
  have J:=ab hw
  refine (uT q r S v _ os o.drew (s.out.below j).ent (F.out.below j) (G.out.new j) D f hw).mono ?_
  clear hw
  rintro e w1 ⟨ev,rfl,⟨gf,rfl,a3,W⟩,B⟩
  obtain ⟨f1,f2⟩:=f
  have a0:=ab W
  have x:=ab (fQ B (show _<o.drew.heap.size from av) (show o.drew.heap[w.heap.size+1]?=_ from y.out))
  have al:=ab ((I.out.new j).new B)
  have u:=ab ((s.out.below j).below B).ent.tab
  clear W hc d0 d1
  go_wp2_with fail
  refine (mQ gf f1 f2 _ al.out a0.out (by omega) (by omega)).mono ?_
  rintro e w2 ⟨rfl,m⟩
  have b:=ab (fQ m (fO x.out) x.out)
  have r0:=ae _ _ 0 _ _ _ b.out
  have r1:=ae _ _ 1 _ _ _ b.out
  have r2:=ae _ _ 2 _ _ _ b.out
  have g0:=aj _ _ 0 _ _ b.out
  have g1:=aj _ _ 1 _ _ b.out
  have g2:=aj _ _ 2 _ _ b.out
  have aE:=fO b.out
  have l:w.heap.size+1≠r:=by have:=HR.out;omega
  have Z:=ae _ _ 0 _ _ _ (heap_setCell _ _ 2 (.int .i64 0) (heap_setCell _ _ 1 (.int .i64 f2) (heap_setCell _ _ 0 (.int .i64 f1) b.out)))
  have x1:=ae _ _ 1 _ _ _ (heap_setCell _ _ 2 (.int .i64 0) (heap_setCell _ _ 1 (.int .i64 f2) (heap_setCell _ _ 0 (.int .i64 f1) b.out)))
  have x2:=ae _ _ 2 _ _ _ (heap_setCell _ _ 2 (.int .i64 0) (heap_setCell _ _ 1 (.int .i64 f2) (heap_setCell _ _ 0 (.int .i64 f1) b.out)))
  have M:Ext (fun i=>i=r) w w2:=(((Ext.fT d).drew).rT B).rT m
  have N:=ab (u.out.gr (m.block r u.out.lt))
  have HV:Hid (rI v os=kD f1 f2 0):=ab (by unfold rI;rw [J.out])
  have HS:Hid (nL v S os=S):=ab (by unfold nL;rw [J.out])
  go_wp2
  refine aI (v := .agg #[.int .i64 f1,.int .i64 f2,.int .i64 0]) (by simp [results,Tryz.results46,go_sem,Z,x1,x2]) rfl ⟨by rw [HV.out];rfl,?_,?_⟩
  ·rw [HS.out]
   refine N.out.gr ?_
   rw [Below.heap_setCell _ ⟨w.heap.size+1,2,none⟩ _ r (dx l),Below.heap_setCell _ ⟨w.heap.size+1,1,none⟩ _ r (dx l),Below.heap_setCell _ ⟨w.heap.size+1,0,none⟩ _ r (dx l)]
  ·exact ((M.setCell _ _ (.inr (by simp))).setCell _ _ (.inr (by simp))).setCell _ _ (.inr (by simp))
end Go.Proofs.YtkkfmkhbdoeglabGreatDoor
