/- A part of what is proved here: lemmas and contracts of single functions. No condition but those that each names. -/
import Derived.Test.YtkkfmkhbdoeglabGreatDoorG00
import Derived.BigRegion
import Derived.Deep.OwnRows
import Derived.LoopTactic
import Derived.Maps.OwnSet
import Derived.WideKeyEntry
import Derived.Test.YtkkfmkhbdoeglabGreatDoorG02
set_option maxHeartbeats 1000000
set_option maxRecDepth 100000
namespace Go.Proofs.YtkkfmkhbdoeglabGreatDoor
open Go.RowKit
structure Cu where
 l:List UInt8
 at':Nat
 to:Nat
 f:Option (Nat×Nat)
def Cu.take (c:Cu) (n:Nat):Cu×List UInt8 :=
 match c.f with
 | some _=>(c,List.replicate n 0)
 | none=>if c.l.length<c.to+n then ({c with f:=some (1,c.to)},List.replicate n 0) else ({c with at':=c.to,to:=c.to+n},(c.l.drop c.to).take n)
def Cu.jC (c:Cu) (ok:Bool) (k:Nat):Cu :=
 match c.f with
 | some _=>c
 | none=>if ok then c else {c with f:=some (k,c.at')}
def Cu.ended (c:Cu):Cu :=
 match c.f with
 | some _=>c
 | none=>if c.to<c.l.length then {c with f:=some (2,c.to)} else c
def vt (w:World) (base:Nat) (fp:Option Addr) (f:Option (Nat×Nat)):Prop :=
 match f with
 | none=>fp=none
 | some (k,n)=>∃ g,fp=some ⟨g,0,none⟩∧base≤g∧w.heap[g]?=some (.cells #[.int .i64 k,.int .i64 n,.nilIface] 186 (0,0))
def CurAt (w:World) (base c:Nat) (cu:Cu):Prop :=
 cu.to≤cu.l.length∧cu.at'≤cu.to∧cu.l.length≤gF∧base≤c∧
 ∃ v fp,w.heap[c]?=some (.cells #[v,.int .i64 cu.at',.int .i64 cu.to,.pointer fp] 254 (0,0))∧BytesAt w v cu.l∧(∀ b,v.ownBlock=some b→b<c)∧vt w base fp cu.f
theorem vt.gr {w w':World} {base:Nat} {fp:Option Addr} {f:Option (Nat×Nat)} (h:vt w base fp f) (b:∀ g,base≤g→(∃ k n,w.heap[g]?=some (.cells #[.int .i64 k,.int .i64 n,.nilIface] 186 (0,0)))→w'.heap[g]?=w.heap[g]?):vt w' base fp f:=by
 cases f with
 | none=>exact h
 | some x =>
  obtain ⟨g,h1,h2,h3⟩:=h
  exact ⟨g,h1,h2,by rw [b g h2 ⟨_,_,h3⟩];exact h3⟩
theorem CurAt.lt {w:World} {base c:Nat} {cu:Cu} (h:CurAt w base c cu):c<w.heap.size:=by
 obtain ⟨h1,h2,h3,h4,v,fp,h5,h6⟩:=h
 exact fO h5
theorem CurAt.gr {w w':World} {base c:Nat} {cu:Cu} (h:CurAt w base c cu) (b:Below w.heap.size w w'):CurAt w' base c cu:=by
 obtain ⟨h1,h2,h3,h4,v,fp,h5,h6,h7,h8⟩:=h
 refine ⟨h1,h2,h3,h4,v,fp,fQ b (fO h5) h5,h6.below b,h7,h8.gr fun g _ ⟨k,n,d⟩=>b.block g (fO d)⟩
theorem CurAt.grown {w w':World} {base c:Nat} {cu:Cu} {r:Nat} (h:CurAt w base c cu) (d:w.grownBy w' (some r)) (m:c<r) (j:∀ k n,w.heap[r]?≠some (.cells #[.int .i64 k,.int .i64 n,.nilIface] 186 (0,0))):CurAt w' base c cu:=by
 obtain ⟨h1,h2,h3,h4,v,fp,h5,h6,h7,h8⟩:=h
 refine ⟨h1,h2,h3,h4,v,fp,?_,fW.grown h6 d ?_,h7,h8.gr fun g _ ⟨k,n,i⟩ => ?_⟩
 ·rw [d.block c (fO h5) (fun e=>by cases e;omega)]
  exact h5
 ·intro b l e
  cases e
  exact absurd (h7 _ l) (by omega)
 ·exact d.block g (fO i) (fun e=>by cases e;exact j k n i)
theorem grownBy_set {w w1:World} {c:Nat} (b:Below w.heap.size w w1) (i:Nat) (v:Value):w.grownBy (w1.setCell ⟨c,i,none⟩ v) (some c) :=
 ⟨b.os,b.tape,b.output,by rw [size_setCell];exact b.size,fun k hk d=>(Below.heap_setCell w1 ⟨c,i,none⟩ v k (fun e=>d (by rw [e]))).trans (b.block k hk)⟩
theorem grownBy_alloc {w w1:World} {r:Option Nat} (b:w.grownBy w1 r) (o:Obj):w.grownBy (w1.alloc o) r :=
 ⟨b.os,b.tape,b.output,aH b.size (by simp),fun k hk d=>(heap_alloc_old _ _ (aC hk b.size)).trans (b.block k hk d)⟩
theorem gG {w w1:World} {c:Nat} (b:w.grownBy w1 (some c)) (i:Nat) (v:Value):w.grownBy (w1.setCell ⟨c,i,none⟩ v) (some c) :=
 ⟨b.os,b.tape,b.output,by rw [size_setCell];exact b.size,fun k hk d=>(Below.heap_setCell w1 ⟨c,i,none⟩ v k (fun e=>d (by rw [e]))).trans (b.block k hk d)⟩
theorem oJ {w w1:World} {r:Option Nat} (b:w.grownBy w1 r) (m:Nat):w.grownBy (w1.drewN m) r:=⟨b.os,b.tape,b.output,b.size,b.block⟩
theorem BytesAt.cap' {w:World} {a:Option Addr} {n cap cap':Nat} {l:List UInt8} (h:BytesAt w (.slice a n cap) l) (hc:n≤cap'):BytesAt w (.slice a n cap') l:=by
 obtain ⟨hl,j,b,he,i,d⟩:=h
 cases he
 exact ⟨hl,a,cap',rfl,hc,d⟩
theorem BM (w:World) (n:Nat) (b:n≤100):BytesAt (w.alloc (.cells (madeCells #[.int .u8 0] n) 5)) (.slice (some ⟨w.heap.size,0,none⟩) n n) (List.replicate n 0):=by
 have hm:maxLen=9223372036854775807:=rfl
 have d:(madeCells #[Value.int .u8 0] n).size=n:=by simp [madeCells]
 have h:=OwnS.new w (madeCells #[.int .u8 0] n) 5 0 0 0 1 n n (aM _) (af _) (by omega) (by omega) (.inl (by omega))
 have e:(madeCells #[Value.int .u8 0] n).toList.take (n*1)=u8s (List.replicate n 0):=by
  rw [ez,Nat.mul_one,aQ (by simp)]
  simp [u8s]
 rw [e] at h
 exact h.bytes
theorem Dv (base c:Nat) (l:List UInt8) (at' to k p n:Nat) (w:World) (h:CurAt w base c ⟨l,at',to,some (k,p)⟩) (i:n≤100) :
  Calls Tryz.prog 157 #[.pointer (some ⟨c,0,none⟩),.int .i64 n] w fun e w'=>∃ v,e = .returned v∧BytesAt w' v (List.replicate n 0)∧v.ownBlock≠some c∧Below w.heap.size w w':=by
 obtain ⟨h1,h2,h3,h4,v,fp,h5,h6,h7,g,rfl,h8⟩:=h
 have c0:w.cell? ⟨c,0,none⟩=some (v):=ae w c 0 _ _ _ h5
 have c1:w.cell? ⟨c,1,none⟩=some (.int .i64 at'):=ae w c 1 _ _ _ h5
 have c2:w.cell? ⟨c,2,none⟩=some (.int .i64 to):=ae w c 2 _ _ _ h5
 have c3:w.cell? ⟨c,3,none⟩=some (.pointer (some ⟨g,0,none⟩)):=ae w c 3 _ _ _ h5
 have b:=fO h5
 clear h5
 have d:∀ w,(Instr.makeSlice 112 (.int .i64 n) (.int .i64 n)).run Tryz.prog w = .ok (.slice (some ⟨w.heap.size,0,none⟩) n n) (w.alloc (.cells (madeCells #[.int .u8 0] n) 5)):=fun w =>
  run_make_row' 112 5 (.int .u8 0) 1 Tryz.underlying112 (by kernel_rfl) rfl .i64 .i64 n (by omega) (by omega) w
 go_enter Tryz.func157,Tryz.ntmps157
 go_wp2
 go_quiet (fail)
 go_wp2
 go_ret
 exact ⟨_,rfl,BM _ n (by omega),by simp [Value.ownBlock];omega,((Below.refl _ w).drewN _).alloc (af _) _⟩
theorem Dw (base c:Nat) (l:List UInt8) (at' to n:Nat) (w:World) (h:CurAt w base c ⟨l,at',to,none⟩) (x:base≤w.heap.size) (y:n≤100) (hs:l.length<to+n) :
  Calls Tryz.prog 157 #[.pointer (some ⟨c,0,none⟩),.int .i64 n] w fun e w'=>∃ v,e = .returned v∧BytesAt w' v (List.replicate n 0)∧v.ownBlock≠some c∧CurAt w' base c ⟨l,at',to,some (1,to)⟩∧w.grownBy w' (some c):=by
 obtain ⟨h1,h2,h3,h4,v,fp,h5,h6,j,h8⟩:=h
 have h7:v.ownBlock≠some c:=fun e=>dA _ (j c e)
 obtain ⟨a,cap,rfl,B,-⟩:=h6.opened
 obtain rfl:fp=none:=h8
 have c0:w.cell? ⟨c,0,none⟩=some (.slice a l.length cap):=ae w c 0 _ _ _ h5
 have c1:w.cell? ⟨c,1,none⟩=some (.int .i64 at'):=ae w c 1 _ _ _ h5
 have c2:w.cell? ⟨c,2,none⟩=some (.int .i64 to):=ae w c 2 _ _ _ h5
 have c3:w.cell? ⟨c,3,none⟩=some (.pointer none):=ae w c 3 _ _ _ h5
 have f3:=aj w c 3 _ _ h5
 have m:=fO h5
 have C:=ab h5
 simp only [] at h1 h2 h3
 unfold gF at h3
 clear h5
 have F:(l.length:Int)-to<n:=by omega
 have G:∀ w,(Instr.makeSlice 112 (.int .i64 n) (.int .i64 n)).run Tryz.prog w = .ok (.slice (some ⟨w.heap.size,0,none⟩) n n) (w.alloc (.cells (madeCells #[.int .u8 0] n) 5)):=fun w =>
  run_make_row' 112 5 (.int .u8 0) 1 Tryz.underlying112 (by kernel_rfl) rfl .i64 .i64 n (by omega) (by omega) w
 go_enter Tryz.func157,Tryz.ntmps157
 go_wp2
 go_quiet (fail)
 go_wp2_with (go_at_call 107;refine (gI _ _ _).mono ?_;rintro e w1 ⟨rfl,d⟩;have o:Below w.heap.size w w1:=(by rw [d];exact ((Below.refl _ w).drewN _).alloc (af _) _);have i:=ab (fQ o m C.out);have g1:w1.heap[w.heap.size]?=some (.cells #[.int .i64 1,.int .i64 to,.nilIface] 186 (0,0)):=(by rw [d];exact fR (w.drewN _) _);have s:=ab g1;clear g1;have d3:w1.cell? ⟨c,3,none⟩=some (.pointer none):=ae _ c 3 _ _ _ i.out;have I:w1.frozen? ⟨c,3,none⟩=false:=aj _ c 3 _ _ i.out;have r:c<w1.heap.size:=fO i.out;clear d)
 go_ret
 have u:=fO s.out
 have D:=heap_setCell w1 c 3 (.pointer (some ⟨w.heap.size,0,none⟩)) i.out
 have q:w.grownBy (w1.setCell ⟨c,3,none⟩ (.pointer (some ⟨w.heap.size,0,none⟩))) (some c):=grownBy_set o _ _
 refine ⟨_,rfl,by have z:=BM (w1.setCell ⟨c,3,none⟩ (.pointer (some ⟨w.heap.size,0,none⟩))) n y;rw [size_setCell] at z;exact z,by simp [Value.ownBlock];omega,⟨h1,h2,by simp only [];unfold gF;omega,h4,.slice a l.length cap,some ⟨w.heap.size,0,none⟩,?_,?_,j,w.heap.size,rfl,x,?_⟩,grownBy_alloc q _⟩
 ·rw [heap_alloc_old _ _ (by rw [size_setCell];exact r),D];rfl
 ·exact fW.grown (h6) (grownBy_alloc q _) (fun b E e=>h7 (by rw [E,e]))
 ·rw [heap_alloc_old _ _ (by rw [size_setCell];exact u)]
  exact (Below.heap_setCell w1 ⟨c,3,none⟩ _ w.heap.size (Nat.ne_of_gt m)).trans s.out
theorem Fj (base c:Nat) (l:List UInt8) (at' to n:Nat) (w:World) (h:CurAt w base c ⟨l,at',to,none⟩) (F:n≤100) (C:1≤n) (hs:to+n≤l.length) :
  Calls Tryz.prog 157 #[.pointer (some ⟨c,0,none⟩),.int .i64 n] w fun e w'=>∃ v,e = .returned v∧BytesAt w' v ((l.drop to).take n)∧v.ownBlock≠some c∧CurAt w' base c ⟨l,to,to+n,none⟩∧w.grownBy w' (some c):=by
 obtain ⟨h1,h2,h3,h4,v,fp,h5,h6,d,h8⟩:=h
 have h7:v.ownBlock≠some c:=fun e=>dA _ (d c e)
 obtain ⟨a,cap,rfl,o,q⟩:=h6.opened
 obtain rfl:fp=none:=h8
 obtain ⟨b,off,rfl,-⟩:=q 0 (by simp only [] at hs⊢;omega)
 have c0:w.cell? ⟨c,0,none⟩=some (.slice (some ⟨b,off,none⟩) l.length cap):=ae w c 0 _ _ _ h5
 have c1:w.cell? ⟨c,1,none⟩=some (.int .i64 at'):=ae w c 1 _ _ _ h5
 have c2:w.cell? ⟨c,2,none⟩=some (.int .i64 to):=ae w c 2 _ _ _ h5
 have c3:w.cell? ⟨c,3,none⟩=some (.pointer none):=ae w c 3 _ _ _ h5
 have f1:=aj w c 1 _ _ h5
 have f2:=aj w c 2 _ _ h5
 have f3:=aj w c 3 _ _ h5
 have D:=fO h5
 have x:=ab h5
 have G:=ab q
 simp only [] at h1 h2 h3 o
 unfold gF at h3
 clear h5 q
 have I:(to:Int)≤to+n:=by omega
 have J:(to:Int)+n≤cap:=by omega
 have M:to+n≤cap:=by omega
 have N:¬(to:Int)+n<0:=by omega
 have E:¬(l.length:Int)-to<n:=by omega
 go_enter Tryz.func157,Tryz.ntmps157
 go_wp2
 go_quiet (fail)
 go_wp2
 go_region
 all_goals (go_wp2;go_quiet (fail);go_wp2)
 go_ret
 have y:to+n-to=n:=by omega
 have r:=heap_setCell w c 1 (.int .i64 to) x.out
 have s:=heap_setCell (w.setCell ⟨c,1,none⟩ (.int .i64 to)) c 2 (.int .i64 (to+n:Nat)) r
 have i:∀ k m,w.grownBy ((((w.drewN k).setCell ⟨c,1,none⟩ (.int .i64 to)).setCell ⟨c,2,none⟩ (.int .i64 (to+n:Nat))).drewN m) (some c):=fun k m =>
  oJ (gG (grownBy_set ((Below.refl _ w).drewN k) 1 _) 2 _) m
 have j:∀ k m,BytesAt ((((w.drewN k).setCell ⟨c,1,none⟩ (.int .i64 to)).setCell ⟨c,2,none⟩ (.int .i64 (to+n:Nat))).drewN m) (.slice (some ⟨b,off,none⟩) l.length cap) l:=fun k m =>
  fW.grown h6 (i k m) (fun b B e=>h7 (by rw [B,e]))
 refine ⟨_,rfl,?_,h7,⟨hs,eh _ _,by simp only [];unfold gF;omega,h4,.slice (some ⟨b,off,none⟩) l.length cap,none,s,j _ _,d,rfl⟩,i _ _⟩
 have u:(l.take (to+n)).drop to=(l.drop to).take n:=by rw [List.drop_take,y]
 rw [←u]
 exact ((j _ _).sub to (to+n) (eh _ _) hs).cap' (af _)
theorem kG {w w':World} (b:Below w.heap.size w w') (r:Option Nat):w.grownBy w' r:=⟨b.os,b.tape,b.output,b.size,fun k hk _=>b.block k hk⟩
theorem jU (base c:Nat) (cu:Cu) (n:Nat) (w:World) (h:CurAt w base c cu) (i:base≤w.heap.size) (b:n≤100) (d:1≤n) :
  Calls Tryz.prog 157 #[.pointer (some ⟨c,0,none⟩),.int .i64 n] w fun e w'=>∃ v,e = .returned v∧BytesAt w' v (cu.take n).2∧v.ownBlock≠some c∧CurAt w' base c (cu.take n).1∧w.grownBy w' (some c):=by
 obtain ⟨l,at',to,f⟩:=cu
 cases f with
 | some x =>
  obtain ⟨k,p⟩:=x
  exact (Dv base c l at' to k p n w h b).mono fun e w' ⟨v,h1,h2,h3,h4⟩=>⟨v,h1,h2,h3,h.gr h4,kG h4 _⟩
 | none =>
  by_cases hs:l.length<to+n
  ·simp only [Cu.take,aD hs]
   exact Dw base c l at' to n w h i b hs
  ·simp only [Cu.take,au hs]
   exact Fj base c l at' to n w h b d (by omega)
theorem CurAt.sA {w w1:World} {base c:Nat} {l:List UInt8} {at' to:Nat} (h:CurAt w base c ⟨l,at',to,none⟩) (q:base≤w.heap.size) (k n:Nat) (m:Nat)
  (hw:w1=(w.drewN m).alloc (.cells #[.int .i64 k,.int .i64 n,.nilIface] 186)) :
  CurAt (w1.setCell ⟨c,3,none⟩ (.pointer (some ⟨w.heap.size,0,none⟩))) base c ⟨l,at',to,some (k,n)⟩∧w.grownBy (w1.setCell ⟨c,3,none⟩ (.pointer (some ⟨w.heap.size,0,none⟩))) (some c):=by
 obtain ⟨h1,h2,h3,h4,v,fp,h5,h6,d,h8⟩:=h
 have h7:v.ownBlock≠some c:=fun e=>dA _ (d c e)
 have i:=fO h5
 have j:Below w.heap.size w w1:=by rw [hw];exact ((Below.refl _ w).drewN _).alloc (af _) _
 have g1:w1.heap[w.heap.size]?=some (.cells #[.int .i64 k,.int .i64 n,.nilIface] 186 (0,0)):=by rw [hw];exact fR (w.drewN _) _
 have o:=grownBy_set j 3 (.pointer (some ⟨w.heap.size,0,none⟩)) (c:=c)
 refine ⟨⟨h1,h2,h3,h4,v,some ⟨w.heap.size,0,none⟩,heap_setCell w1 c 3 _ (fQ j i h5),fW.grown h6 o (fun b r e=>h7 (by rw [r,e])),d,w.heap.size,rfl,q,?_⟩,o⟩
 exact (Below.heap_setCell w1 ⟨c,3,none⟩ _ w.heap.size (Nat.ne_of_gt i)).trans g1
theorem EK (base c:Nat) (cu:Cu) (ok:Bool) (k:Nat) (w:World) (h:CurAt w base c cu) (b:cu.f≠none∨ok=true) :
  Calls Tryz.prog 186 #[.pointer (some ⟨c,0,none⟩),.bool ok,.int .i64 k] w fun e w'=>e = .returned (.tuple #[])∧CurAt w' base c (cu.jC ok k)∧w.grownBy w' (some c):=by
 have hm:cu.jC ok k=cu:=by
  unfold Cu.jC
  rcases b with b | b
  ·cases hc:cu.f with
   | none=>exact absurd hc b
   | some x=>rfl
  ·cases hc:cu.f with
   | none=>simp [b]
   | some x=>rfl
 rw [hm]
 have H:=ab h
 obtain ⟨h1,h2,h3,h4,v,fp,h5,h6,h7,h8⟩:=h
 have c3:w.cell? ⟨c,3,none⟩=some (.pointer fp):=ae w c 3 _ _ _ h5
 have l:=fO h5
 clear h5 h6 hm
 by_cases d:ok=true
 ·subst d
  by_cases hc:fp=none
  ·subst hc
   go_enter Tryz.func186,Tryz.ntmps186
   go_wp2
   go_end0
   exact ⟨rfl,H.out,kG (Below.refl _ w) _⟩
  ·obtain ⟨a,rfl⟩:=eY.1 hc
   go_enter Tryz.func186,Tryz.ntmps186
   go_wp2
   go_end0
   exact ⟨rfl,H.out,kG (Below.refl _ w) _⟩
 ·have i:cu.f≠none:=b.resolve_right d
  obtain ⟨x,j⟩:=eY.1 i
  rw [j] at h8
  obtain ⟨g,rfl,-,-⟩:=h8
  clear b i j
  go_enter Tryz.func186,Tryz.ntmps186
  go_wp2
  go_end0
  exact ⟨rfl,H.out,kG (Below.refl _ w) _⟩
theorem CY (base c:Nat) (l:List UInt8) (at' to k:Nat) (w:World) (h:CurAt w base c ⟨l,at',to,none⟩) (m:base≤w.heap.size) :
  Calls Tryz.prog 186 #[.pointer (some ⟨c,0,none⟩),.bool false,.int .i64 k] w fun e w'=>e = .returned (.tuple #[])∧CurAt w' base c ⟨l,at',to,some (k,at')⟩∧w.grownBy w' (some c):=by
 have H:=ab h
 obtain ⟨h1,h2,h3,h4,v,fp,h5,h6,h7,h8⟩:=h
 obtain rfl:fp=none:=h8
 have c3:w.cell? ⟨c,3,none⟩=some (.pointer none):=ae w c 3 _ _ _ h5
 have c1:w.cell? ⟨c,1,none⟩=some (.int .i64 at'):=ae w c 1 _ _ _ h5
 have j:=ab h5
 have b:=fO h5
 clear h5 h6
 go_enter Tryz.func186,Tryz.ntmps186
 go_wp2_with (go_at_call 107;refine (gI _ _ _).mono ?_;rintro e w1 ⟨rfl,d⟩;have o:=ab d;have i:Below w.heap.size w w1:=(by rw [d];exact (Below.refl _ w).alloc (af _) _);have d3:w1.cell? ⟨c,3,none⟩=some (.pointer none):=ae _ c 3 _ _ _ (fQ i b j.out);have r:w1.frozen? ⟨c,3,none⟩=false:=aj _ c 3 _ _ (fQ i b j.out);have q:c<w1.heap.size:=fO (fQ i b j.out);clear d)
 go_end0
 exact ⟨rfl,H.out.sA m k at' 0 o.out⟩
theorem iO (base c:Nat) (cu:Cu) (ok:Bool) (k:Nat) (w:World) (h:CurAt w base c cu) (d:base≤w.heap.size) :
  Calls Tryz.prog 186 #[.pointer (some ⟨c,0,none⟩),.bool ok,.int .i64 k] w fun e w'=>e = .returned (.tuple #[])∧CurAt w' base c (cu.jC ok k)∧w.grownBy w' (some c):=by
 by_cases b:cu.f≠none∨ok=true
 ·exact EK base c cu ok k w h b
 ·obtain ⟨l,at',to,f⟩:=cu
  have h1:f=none:=by simpa using (not_or.1 b).1
  have h2:ok=false:=by simpa using (not_or.1 b).2
  subst h1 h2
  exact CY base c l at' to k w h d
end Go.Proofs.YtkkfmkhbdoeglabGreatDoor
namespace Go.Proofs.YtkkfmkhbdoeglabGreatDoor
open Go.RowKit
def iP (l:List UInt8):Nat:=l.foldl (fun v x=>v*256+x.toNat) 0
theorem EP (l:List UInt8) (x:UInt8):iP (l++[x])=iP l*256+x.toNat:=by simp [iP]
theorem qQ (l:List UInt8) (k:Nat) (h:k<l.length):iP (l.take (k+1))=iP (l.take k)*256+l[k].toNat:=by
 rw [aT h,EP]
theorem qP:∀ (k:Nat) (l:List UInt8),k≤l.length→iP (l.take k)<256^k
 | 0,l,_=>by simp [iP]
 | k+1,l,h=>by
  have ih:=qP k l (by omega)
  have b:=(l[k]'(by omega)).toNat_lt
  rw [qQ l k (by omega),Nat.pow_succ]
  omega
theorem Ct (base c:Nat) (cu:Cu) (w:World) (h:CurAt w base c cu) (d:cu.f≠none∨¬cu.to<cu.l.length) :
  Calls Tryz.prog 188 #[.pointer (some ⟨c,0,none⟩)] w fun e w'=>e = .returned (.tuple #[])∧CurAt w' base c cu.ended∧w.grownBy w' (some c):=by
 have hm:cu.ended=cu:=by
  unfold Cu.ended
  cases hc:cu.f with
  | some x=>rfl
  | none=>simp [d.resolve_left (fun k=>k hc)]
 rw [hm]
 have H:=ab h
 obtain ⟨h1,h2,h3,h4,v,fp,h5,h6,h7,h8⟩:=h
 obtain ⟨a,cap,rfl,j,-⟩:=h6.opened
 have c0:w.cell? ⟨c,0,none⟩=some (.slice a cu.l.length cap):=ae w c 0 _ _ _ h5
 have c2:w.cell? ⟨c,2,none⟩=some (.int .i64 cu.to):=ae w c 2 _ _ _ h5
 have c3:w.cell? ⟨c,3,none⟩=some (.pointer fp):=ae w c 3 _ _ _ h5
 have o:=fO h5
 clear h5 h6 hm
 cases b:fp with
 | some p =>
  subst b
  go_enter Tryz.func188,Tryz.ntmps188
  go_wp2
  go_quiet (fail)
  go_wp2
  go_end0
  exact ⟨rfl,H.out.gr ((Below.refl _ w).drewN _),kG ((Below.refl _ w).drewN _) _⟩
 | none =>
  subst b
  have i:cu.f=none:=by
   cases hc:cu.f with
   | none=>rfl
   | some x=>rw [hc] at h8;obtain ⟨g,m,_⟩:=h8;cases m
  have hle:¬(cu.to:Int)<cu.l.length:=by have:=d.resolve_left (fun k=>k i);omega
  go_enter Tryz.func188,Tryz.ntmps188
  go_wp2
  go_quiet (fail)
  go_wp2
  go_end0
  exact ⟨rfl,H.out.gr ((Below.refl _ w).drewN _),kG ((Below.refl _ w).drewN _) _⟩
theorem Ax (base c:Nat) (l:List UInt8) (at' to:Nat) (w:World) (h:CurAt w base c ⟨l,at',to,none⟩) (m:base≤w.heap.size) (hs:to<l.length) :
  Calls Tryz.prog 188 #[.pointer (some ⟨c,0,none⟩)] w fun e w'=>e = .returned (.tuple #[])∧CurAt w' base c ⟨l,at',to,some (2,to)⟩∧w.grownBy w' (some c):=by
 have H:=ab h
 obtain ⟨h1,h2,h3,h4,v,fp,h5,h6,h7,h8⟩:=h
 obtain ⟨a,cap,rfl,o,-⟩:=h6.opened
 obtain rfl:fp=none:=h8
 have c0:w.cell? ⟨c,0,none⟩=some (.slice a l.length cap):=ae w c 0 _ _ _ h5
 have c2:w.cell? ⟨c,2,none⟩=some (.int .i64 to):=ae w c 2 _ _ _ h5
 have c3:w.cell? ⟨c,3,none⟩=some (.pointer none):=ae w c 3 _ _ _ h5
 have j:=ab h5
 have b:=fO h5
 have s:(to:Int)<l.length:=by omega
 clear h5 h6
 go_enter Tryz.func188,Tryz.ntmps188
 go_wp2
 go_quiet (fail)
 go_wp2_with (go_at_call 107;refine (gI _ _ _).mono ?_;rintro e w1 ⟨rfl,d⟩;have q:=ab d;have i:Below w.heap.size w w1:=(by rw [d];exact ((Below.refl _ w).drewN _).alloc (af _) _);have d3:w1.cell? ⟨c,3,none⟩=some (.pointer none):=ae _ c 3 _ _ _ (fQ i b j.out);have u:w1.frozen? ⟨c,3,none⟩=false:=aj _ c 3 _ _ (fQ i b j.out);have r:c<w1.heap.size:=fO (fQ i b j.out);clear d)
 go_end0
 exact ⟨rfl,H.out.sA m 2 to _ q.out⟩
theorem yd (base c:Nat) (cu:Cu) (w:World) (h:CurAt w base c cu) (d:base≤w.heap.size) :
  Calls Tryz.prog 188 #[.pointer (some ⟨c,0,none⟩)] w fun e w'=>e = .returned (.tuple #[])∧CurAt w' base c cu.ended∧w.grownBy w' (some c):=by
 by_cases b:cu.f≠none∨¬cu.to<cu.l.length
 ·exact Ct base c cu w h b
 ·obtain ⟨l,at',to,f⟩:=cu
  have h1:f=none:=by simpa using (not_or.1 b).1
  have h2:to<l.length:=Decidable.not_not.1 (not_or.1 b).2
  subst h1
  simp only [Cu.ended,aD h2]
  exact Ax base c l at' to w h d h2
theorem Cu.take_length (cu:Cu) (n:Nat):(cu.take n).2.length=n:=by
 unfold Cu.take
 cases cu.f with
 | some x=>simp
 | none =>
  by_cases h:cu.l.length<cu.to+n
  ·simp [h]
  ·simp [h];omega
theorem mJ (base c:Nat) (cu:Cu) (w:World) (h:CurAt w base c cu) (u:base≤w.heap.size) :
  Calls Tryz.prog 156 #[.pointer (some ⟨c,0,none⟩)] w fun e w'=>e = .returned (.int .u64 (iP (cu.take 8).2))∧CurAt w' base c (cu.take 8).1∧w.grownBy w' (some c):=by
 obtain ⟨l,hl⟩:∃ l,l=(cu.take 8).2:=⟨_,rfl⟩
 have hlen:l.length=8:=by rw [hl,Cu.take_length]
 have x:=ab hl
 rw [←hl]
 clear hl
 go_enter Tryz.func156,Tryz.ntmps156
 go_wp2_with (go_at_call 157;refine (jU base c cu 8 _ h u (by decide) (by decide)).mono ?_;rintro e w1 ⟨v,rfl,d,m,o,q⟩;rw [←x.out] at d;obtain ⟨a,cap,rfl,y,r⟩:=d.opened;have B:=ab r;clear r d m)
 go_loop [3,9] (fun c i=>∃ k:Nat,k≤8∧i = .int .i64 k∧c = .int .u64 (iP (l.take k))) (fun _ i=>8-(intOf i).toNat)
 case atStart=>exact ⟨0,by omega,rfl,by simp [iP]⟩
 case round =>
  obtain ⟨k,hk,rfl,rfl⟩:=hrel
  by_cases h8:k<8
  ·have j:=qP k l (by omega)
   have hle:iP (l.take k)<256^7:=aC j (eX (by decide) (by omega))
   have H:=ab (qQ l k (by omega))
   obtain ⟨b,off,rfl,s⟩:=B.out k (by omega)
   have D:=(l[k]'(by omega)).toNat_lt
   generalize iP (l.take k)=v at *
   clear j
   have d:v<72057594037927936:=hle
   clear hle
   go_wp2
   go_round
   case rel =>
    refine ⟨k+1,by omega,by go_num,?_⟩
    have C:v*256 ||| (l[k]'(by omega)).toNat=v*256+(l[k]'(by omega)).toNat:=nat_join 8 _ _ (by omega) (by omega)
    rw [show ((v:Int)*256)=((v*256:Nat):Int) by omega,u64_or_nat _ _ (by omega) (by omega),C,H.out]
   case measure=>simp [intOf];omega
  ·obtain rfl:k=8:=by omega
   rw [aQ (by omega)]
   go_wp2
   go_ret
   exact ⟨rfl,o,q⟩
end Go.Proofs.YtkkfmkhbdoeglabGreatDoor
namespace Go.Proofs.YtkkfmkhbdoeglabGreatDoor
open Go.RowKit
abbrev K:=Int×List UInt8
def kV (x:K):Value:=jh x.1 x.2
theorem ib (em:Bool) (x:K) (w:World):(Instr.checkKey em 10000 103 (kV x)).run Tryz.prog w = .ok () w:=by
 have h:∀ n,(Instr.checkKey em (n+2) 103 (kV x)).run Tryz.prog w = .ok () w:=by
  intro n
  have h1:(part 3 #[Value.int .i64 x.1,.string ⟨x.2.toArray⟩] 0).run Tryz.prog w = .ok (.int .i64 x.1) w:=cO w (by kernel_rfl) rfl
  have h2:(part 9 #[Value.int .i64 x.1,.string ⟨x.2.toArray⟩] 1).run Tryz.prog w = .ok (.string ⟨x.2.toArray⟩) w:=cO w (by kernel_rfl) rfl
  simp [Instr.checkKey,kV,jh,aL Tryz.underlying103,aL Tryz.underlying3,aL Tryz.underlying9,h1,h2,Result.andThen]
 exact h 9998
theorem tA (x y:K) (w:World):(Op.equal 103 (kV x) (kV y)).run Tryz.prog w = .ok (x==y) w:=by
 have h1:∀ x:K,(part 3 #[Value.int .i64 x.1,.string ⟨x.2.toArray⟩] 0).run Tryz.prog w = .ok (.int .i64 x.1) w:=fun x=>cO w (by kernel_rfl) rfl
 have h2:∀ x:K,(part 9 #[Value.int .i64 x.1,.string ⟨x.2.toArray⟩] 1).run Tryz.prog w = .ok (.string ⟨x.2.toArray⟩) w:=fun x=>cO w (by kernel_rfl) rfl
 obtain ⟨a,b⟩:=x
 obtain ⟨c,d⟩:=y
 have hd:∀ n,(Op.equalIn (n+2) 103 (jh a b) (jh c d)).run Tryz.prog w = .ok ((a,b)==(c,d)) w:=by
  intro n
  have l:((⟨b.toArray⟩:ByteArray)==⟨d.toArray⟩)=(b==d):=by
   cases i:(b==d) with
   | true=>rw [a8] at i;subst i;exact (cQ _ _).2 rfl
   | false =>
    rw [aA] at i
    cases o:((⟨b.toArray⟩:ByteArray)==⟨d.toArray⟩) with
    | false=>rfl
    | true =>
     have:=(cQ _ _).1 o
     simp at this
     exact absurd this i
  have j:Tryz.prog.underlying 103=some (.struct (Tryz.prog.fieldsOf 103)):=by kernel_rfl
  have q:Tryz.prog.stoodInHeld 103=false:=by kernel_rfl
  have r:=TypeDesc.struct.inj (Option.some.inj (j.symm.trans Tryz.underlying103))
  have s:∀ m (x y:Int),(Op.equalIn (m+1) 3 (.int .i64 x) (.int .i64 y)).run Tryz.prog w = .ok (x==y) w:=fun m x y=>by simp [Op.equalIn,aL Tryz.underlying3]
  have u:∀ m (x y:ByteArray),(Op.equalIn (m+1) 9 (.string x) (.string y)).run Tryz.prog w = .ok (x==y) w:=fun m x y=>by simp [Op.equalIn,aL Tryz.underlying9]
  unfold jh
  rw [fA w (n+1) 103 _ _ j q,r]
  simp only [Op.eqFields]
  rw [aD (by decide),aD (by decide)]
  simp only [cn,h1 (a,b),h1 (c,d),s,cg]
  show _=Result.ok ((a==c)&&(b==d)) w
  cases B:(a==c) with
  | false=>simp
  | true =>
   simp only [Bool.not_true,ek,df,cn,h2 (a,b),h2 (c,d),u,cg,l,Bool.true_and]
   cases (b==d) <;> simp
 exact hd 9998
def gN (k:K):List (K×Value)→Nat→Option (Nat×Value)
 | [],_=>none
 | e::es,i=>if k==e.1 then some (i,e.2) else gN k es (i+1)
theorem kF (k:K) (w:World):∀ (es:List MapEntry) (l:List (K×Value)) (_:es.map (fun e=>(e.key,e.val))=l.map (fun x=>(kV x.1,x.2))),(Instr.findKey 103 (kV k) es).run Tryz.prog w = .ok (gN k l 0) w:=by
 have go:∀ (es:List MapEntry) (l:List (K×Value)) (i:Nat) (_:es.map (fun e=>(e.key,e.val))=l.map (fun x=>(kV x.1,x.2))),(Instr.findAsking 103 (kV k) es i).run Tryz.prog w = .ok (gN k l i) w:=by
  intro es
  induction es with
  | nil =>
   intro l i h
   cases l with
   | nil=>rfl
   | cons x l=>cases h
  | cons e es ih =>
   intro l i h
   cases l with
   | nil=>cases h
   | cons x l =>
    rw [bq,bq] at h
    have h1:=(List.cons.inj h).1
    have h2:=(List.cons.inj h).2
    have b:e.key=kV x.1:=(Prod.mk.inj h1).1
    have d:e.val=x.2:=(Prod.mk.inj h1).2
    unfold Instr.findAsking gN
    rw [cn,b,tA]
    cases hk:(k==x.1) with
    | false =>
     rw [cg]
     exact ih l (i+1) h2
    | true =>
     rw [d]
     rfl
 intro es l h
 rw [run_findKey_eq w (k:=103) (by rw [Tryz.underlying103])]
 exact go es l 0 h
theorem o4 (x:K) (w:World):(Instr.keyThatStays (kV x) (kV x)).run Tryz.prog w = .ok (kV x) w:=by
 have h:∀ n,Instr.sameBits (n+2) (kV x) (kV x)=true:=by
  intro n
  simp [Instr.sameBits,kV,jh]
  exact (cQ _ _).2 rfl
 have b:Instr.sameBits 10000 (kV x) (kV x)=true:=h 9998
 simp only [Instr.keyThatStays,b,dM]
 rfl
def fY (w:World) (r:Nat) (l:List (K×Value)):Prop :=
 ∃ es clock,w.heap[r]?=some (.map es clock)∧es.toList.map (fun e=>(e.key,e.val))=l.map (fun x=>(kV x.1,x.2))∧(∀ e∈es.toList,e.born<clock)∧(es.toList.map (·.born)).Nodup∧(l.map (·.1)).Nodup
theorem fY.lt {w:World} {r:Nat} {l:List (K×Value)} (h:fY w r l):r<w.heap.size:=by
 obtain ⟨es,clock,h,_⟩:=h
 exact fO h
theorem fY.gr {w w':World} {r:Nat} {l:List (K×Value)} (h:fY w r l) (b:w'.heap[r]?=w.heap[r]?):fY w' r l:=by
 obtain ⟨es,clock,h,x⟩:=h
 exact ⟨es,clock,b.trans h,x⟩
theorem fY.new (w:World):fY (w.alloc (.map #[] 0)) w.heap.size []:=⟨#[],0,fR _ _,rfl,by simp,by simp,by simp⟩
def nE (k:K) (l:List (K×Value)):Option Value:=(l.find? (fun x=>k==x.1)).map (·.2)
theorem kR (k:K):∀ (l:List (K×Value)) (i:Nat),(gN k l i).map (·.2)=nE k l
 | [],i=>rfl
 | x::l,i=>by
  unfold gN nE
  rw [dW]
  cases h:(k==x.1) with
  | true=>rfl
  | false=>exact kR k l (i+1)
theorem pz (k:K):∀ (l:List (K×Value)) (i:Nat),(∀ x∈l,x.1≠k)→gN k l i=none
 | [],i,_=>rfl
 | x::l,i,h=>by
  unfold gN
  have:(k==x.1)=false:=by rw [aA];exact fun e=>h x bV e.symm
  rw [this]
  exact pz k l (i+1) fun y b=>h y (aR _ b)
section
variable {w:World} {r:Nat} {l:List (K×Value)} {mt e:TypeId} {z:Value}
theorem fY.lookup (h:fY w r l) (d:Tryz.prog.underlying mt=some (.map 103 e)) (m:(zeroValue e).run Tryz.prog w = .ok z w) (k:K) :
  (Instr.lookup mt (.map (some r)) (kV k) false).run Tryz.prog w = .ok ((nE k l).getD z) w:=by
 obtain ⟨es,clock,j,hl,_⟩:=h
 have b:=kF k w es.toList l hl
 rw [←kR k l 0]
 cases hk:gN k l 0 with
 | none =>
  rw [hk] at b
  simp [Instr.lookup,aL d,aK j,ib,b,m,Result.andThen]
 | some x =>
  rw [hk] at b
  obtain ⟨i,v⟩:=x
  simp [Instr.lookup,aL d,aK j,ib,b,Result.andThen]
theorem fY.kT (h:fY w r l) (d:Tryz.prog.underlying mt=some (.map 103 e)) (m:(zeroValue e).run Tryz.prog w = .ok z w) (k:K) :
  (Instr.lookup mt (.map (some r)) (kV k) true).run Tryz.prog w = .ok (.tuple #[(nE k l).getD z,.bool (nE k l).isSome]) w:=by
 obtain ⟨es,clock,j,hl,_⟩:=h
 have b:=kF k w es.toList l hl
 rw [←kR k l 0]
 cases hk:gN k l 0 with
 | none =>
  rw [hk] at b
  simp [Instr.lookup,aL d,aK j,ib,b,m,Result.andThen]
 | some x =>
  rw [hk] at b
  obtain ⟨i,v⟩:=x
  simp [Instr.lookup,aL d,aK j,ib,b,Result.andThen]
end
end Go.Proofs.YtkkfmkhbdoeglabGreatDoor
namespace Go.Proofs.YtkkfmkhbdoeglabGreatDoor
open Go.RowKit Go.WideElems Go.WideMaps Go.ChangeMaps
def mS (k:K) (v:Value) (l:List (K×Value)):List (K×Value) :=
 match gN k l 0 with
 | some (j,_)=>l.set j (k,v)
 | none=>l++[(k,v)]
def vU (k:K) (l:List (K×Value)):List (K×Value) :=
 match gN k l 0 with
 | some (j,_)=>l.eraseIdx j
 | none=>l
theorem jI (k:K):∀ (l:List (K×Value)) (i j:Nat) (v:Value),gN k l i=some (j,v)→i≤j∧l[j-i]?=some (k,v)
 | [],_,_,_,h=>by simp [gN] at h
 | x::l,i,j,v,h=>by
  unfold gN at h
  cases hk:(k==x.1) with
  | true =>
   rw [hk,aD rfl] at h
   cases h
   rw [a8] at hk
   subst hk
   simp
  | false =>
   rw [hk,au (by simp)] at h
   obtain ⟨h1,h2⟩:=jI k l (i+1) j v h
   refine ⟨by omega,?_⟩
   rw [show j-i=(j-(i+1))+1 by omega,aY]
   exact h2
theorem iM (k:K):∀ (l:List (K×Value)) (i:Nat),gN k l i=none→∀ x∈l,x.1≠k
 | [],_,_,x,b=>by simp at b
 | y::l,i,h,x,b=>by
  unfold gN at h
  cases hk:(k==y.1) with
  | true=>rw [hk,aD rfl] at h;cases h
  | false =>
   rw [hk,au (by simp)] at h
   rcases aP.1 b with rfl | b
   ·rw [aA] at hk
    exact fun e=>hk e.symm
   ·exact iM k l (i+1) h x b
theorem oZ {l:List (K×Value)} {j:Nat} {k:K} {v u:Value} (h:l[j]?=some (k,u)):(l.set j (k,v)).map (·.1)=l.map (·.1):=by
 rw [cY]
 exact set_self _ _ _ (by rw [bd,h];rfl)
theorem gy {w:World} {r:Nat} {es:Array MapEntry} {clock:Nat} {b:Obj} (h:w.heap[r]?=some (.map es clock)):w.grownBy (setBlock w r b) (some r) :=
 ⟨rfl,rfl,rfl,by simp [setBlock],fun k _ hk=>heap_setBlock_other h _ (fun e=>hk (by rw [e]))⟩
theorem gj {w:World} {r:Nat} {o b:Obj} (h:w.heap[r]?=some o):(setBlock w r b).heap[r]?=some b:=by
 have d:=fO h
 simp [setBlock,d]
section
variable {w:World} {r:Nat} {l:List (K×Value)} {mt e:TypeId} {z:Value}
theorem fY.entry (h:fY w r l) (S:Tryz.prog.underlying mt=some (.map 103 e)) (X:∀ u:World,(zeroValue e).run Tryz.prog u = .ok z u) (k:K) :
  ∃ m st,(∀ n,(Instr.mapEntry mt (.map (some r)) (kV k)).run Tryz.prog (w.drewN n) = .ok (.tuple #[(nE k l).getD z,goInt st]) (m.drewN n))∧fY m r (mS k ((nE k l).getD z) l)∧w.grownBy m (some r)∧m.heap.size=w.heap.size∧
   ∀ v,∃ D,(∀ n,(Instr.entryStore mt (.map (some r)) (goInt st) v).run Tryz.prog (m.drewN n) = .ok () (D.drewN n))∧fY D r (mS k v l)∧m.grownBy D (some r)∧D.heap.size=m.heap.size:=by
 obtain ⟨es,clock,B,hl,hc,E,hk⟩:=h
 have F:∀ n,(Instr.findKey 103 (kV k) es.toList).run Tryz.prog (w.drewN n) = .ok (gN k l 0) (w.drewN n):=fun n=>kF k (w.drewN n) es.toList l hl
 have q:∀ n,(w.drewN n).heap[r]?=some (.map es clock):=fun n=>B
 rw [←kR k l 0]
 unfold mS
 cases s:gN k l 0 with
 | none =>
  rw [s] at F
  have O:=iM k l 0 s
  have G:(es.push ⟨kV k,z,clock⟩).toList.map (·.born)=es.toList.map (·.born)++[clock]:=by simp
  have C:((es.push ⟨kV k,z,clock⟩).toList.map (·.born)).Nodup:=by
   rw [G]
   refine cf.2 ⟨E,by simp,fun a ha c y U => ?_⟩
   simp only [ax] at y
   obtain ⟨x,d,rfl⟩:=aB.1 ha
   have:=hc x d
   omega
  have M:∀ v:Value,((l++[(k,v)]).map (·.1)).Nodup:=fun v=>by
   rw [bm]
   refine cf.2 ⟨hk,by simp,fun a ha c y U => ?_⟩
   simp at y
   obtain ⟨x,d,rfl⟩:=aB.1 ha
   exact O x d (U.trans y)
  have N:∀ v:Value,∀ x∈(es.push ⟨kV k,v,clock⟩).toList,x.born<clock+1:=by
   intro v x d
   simp at d
   rcases d with d | rfl
   ·have:=hc x (by simpa using d);omega
   ·simp
  have b:(setBlock w r (.map (es.push ⟨kV k,z,clock⟩) (clock+1))).heap[r]?=some (.map (es.push ⟨kV k,z,clock⟩) (clock+1)):=gj B
  refine ⟨setBlock w r (.map (es.push ⟨kV k,z,clock⟩) (clock+1)),clock,fun n => ?_,⟨_,_,b,by simp [hl],N z,C,M _⟩,gy B,by simp [setBlock],
   fun v=>⟨setBlock (setBlock w r (.map (es.push ⟨kV k,z,clock⟩) (clock+1))) r (.map (es.push ⟨kV k,v,clock⟩) (clock+1)),fun n => ?_,⟨_,_,gj b,by simp [hl],N v,by simpa using C,M _⟩,gy b,by simp [setBlock]⟩⟩
  ·simp [Instr.mapEntry,aL S,aK (q n),ib,F,X,bh _ (q n),Result.andThen]
   rfl
  ·have o:(es.push ⟨kV k,z,clock⟩).findIdx? (fun e=>((e.born:Nat):Int)==((clock:Nat):Int))=some es.size:=by
    rw [findIdx_arr]
    exact findIdx_born (l:=(es.push ⟨kV k,z,clock⟩).toList) (j:=es.size) (e0:=⟨kV k,z,clock⟩) C (by simp)
   have Q:(es.push ⟨kV k,z,clock⟩).modify es.size (fun e => {e with val:=v})=es.push ⟨kV k,v,clock⟩:=by
    apply Array.ext'
    rw [bJ,fH,fH,←dh,modify_last]
   have i:((setBlock w r (.map (es.push ⟨kV k,z,clock⟩) (clock+1))).drewN n).heap[r]?=some (.map (es.push ⟨kV k,z,clock⟩) (clock+1)):=b
   simp [Instr.entryStore,aK i,asInt,asIntOf,goInt,o,Q,bh _ i,Result.andThen]
   rfl
 | some x =>
  obtain ⟨j,u⟩:=x
  rw [s] at F
  obtain ⟨-,I⟩:=jI k l 0 j u s
  rw [cJ] at I
  have V:∃ e0,es.toList[j]?=some e0∧e0.key=kV k∧e0.val=u:=by
   have h1:(es.toList.map (fun e=>(e.key,e.val)))[j]?=some (kV k,u):=by rw [hl,bd,I];rfl
   rw [bd] at h1
   obtain ⟨e0,h2,h3⟩:=ck.1 h1
   exact ⟨e0,h2,(Prod.mk.inj h3).1,(Prod.mk.inj h3).2⟩
  obtain ⟨e0,h2,h3,h4⟩:=V
  have W:es[j]?=some e0:=by simpa using h2
  have J:es.modify j (fun e => {e with key:=kV k})=es:=by
   apply Array.ext'
   rw [bJ,cX _ _ _ _ h2]
   have:({e0 with key:=kV k} : MapEntry)=e0:=by rw [←h3]
   rw [this]
   exact set_self _ _ _ h2
  have R:l.set j (k,u)=l:=set_self _ _ _ I
  simp only [dX,bR,R]
  have b:(setBlock w r (.map es clock)).heap[r]?=some (.map es clock):=gj B
  refine ⟨setBlock w r (.map es clock),e0.born,fun n => ?_,⟨_,_,b,hl,hc,E,hk⟩,gy B,by simp [setBlock],
   fun v=>⟨setBlock (setBlock w r (.map es clock)) r (.map (es.modify j (fun e => {e with val:=v})) clock),fun n => ?_,⟨_,_,gj b,?_,?_,?_,?_⟩,gy b,by simp [setBlock]⟩⟩
  ·simp [Instr.mapEntry,aL S,aK (q n),ib,F,W,h3,o4,J,bh _ (q n),Result.andThen]
   rfl
  ·have o:es.findIdx? (fun e=>((e.born:Nat):Int)==((e0.born:Nat):Int))=some j:=by
    rw [findIdx_arr]
    exact findIdx_born E h2
   have i:((setBlock w r (.map es clock)).drewN n).heap[r]?=some (.map es clock):=b
   simp [Instr.entryStore,aK i,asInt,asIntOf,goInt,o,bh _ i,Result.andThen]
   rfl
  ·rw [bJ,cX _ _ _ _ h2,cY,hl,cY,h3]
  ·intro x d
   rw [bJ,cX _ _ _ _ h2] at d
   rcases cS d with d | rfl
   ·exact hc x d
   ·exact hc e0 (aV h2)
  ·rw [bJ,cX _ _ _ _ h2,cY]
   rw [set_self _ _ _ (by rw [bd,h2];rfl)]
   exact E
  ·rw [oZ I]
   exact hk
end
end Go.Proofs.YtkkfmkhbdoeglabGreatDoor
namespace Go.Proofs.YtkkfmkhbdoeglabGreatDoor
open Go.RowKit Go.WideElems Go.ChangeMaps
section
variable {w:World} {r:Nat} {l:List (K×Value)} {mt e:TypeId} {z:Value}
theorem fY.update (h:fY w r l) (D:Tryz.prog.underlying mt=some (.map 103 e)) (k:K) (v:Value) :
  ∃ q,(∀ n,(Instr.mapUpdate mt (.map (some r)) (kV k) v).run Tryz.prog (w.drewN n) = .ok () (q.drewN n))∧fY q r (mS k v l)∧w.grownBy q (some r)∧q.heap.size=w.heap.size:=by
 obtain ⟨es,clock,o,hl,hc,E,hk⟩:=h
 have s:∀ n,(Instr.findKey 103 (kV k) es.toList).run Tryz.prog (w.drewN n) = .ok (gN k l 0) (w.drewN n):=fun n=>kF k (w.drewN n) es.toList l hl
 have d:∀ n,(w.drewN n).heap[r]?=some (.map es clock):=fun n=>o
 unfold mS
 cases i:gN k l 0 with
 | none =>
  rw [i] at s
  have B:=iM k l 0 i
  have y:(es.push ⟨kV k,v,clock⟩).toList.map (·.born)=es.toList.map (·.born)++[clock]:=by simp
  have F:((es.push ⟨kV k,v,clock⟩).toList.map (·.born)).Nodup:=by
   rw [y]
   refine cf.2 ⟨E,by simp,fun a ha c m G => ?_⟩
   simp only [ax] at m
   obtain ⟨x,b,rfl⟩:=aB.1 ha
   have:=hc x b
   omega
  have I:((l++[(k,v)]).map (·.1)).Nodup:=by
   rw [bm]
   refine cf.2 ⟨hk,by simp,fun a ha c m G => ?_⟩
   simp at m
   obtain ⟨x,b,rfl⟩:=aB.1 ha
   exact B x b (G.trans m)
  have J:∀ x∈(es.push ⟨kV k,v,clock⟩).toList,x.born<clock+1:=by
   intro x b
   simp at b
   rcases b with b | rfl
   ·have:=hc x (by simpa using b);omega
   ·simp
  refine ⟨setBlock w r (.map (es.push ⟨kV k,v,clock⟩) (clock+1)),fun n => ?_,⟨_,_,gj o,by simp [hl],J,F,I⟩,gy o,by simp [setBlock]⟩
  simp [Instr.mapUpdate,aL D,aK (d n),ib,s,bh _ (d n),Result.andThen]
  rfl
 | some x =>
  obtain ⟨j,u⟩:=x
  rw [i] at s
  obtain ⟨-,C⟩:=jI k l 0 j u i
  rw [cJ] at C
  have M:∃ e0,es.toList[j]?=some e0∧e0.key=kV k∧e0.val=u:=by
   have h1:(es.toList.map (fun e=>(e.key,e.val)))[j]?=some (kV k,u):=by rw [hl,bd,C];rfl
   rw [bd] at h1
   obtain ⟨e0,h2,h3⟩:=ck.1 h1
   exact ⟨e0,h2,(Prod.mk.inj h3).1,(Prod.mk.inj h3).2⟩
  obtain ⟨e0,h2,h3,h4⟩:=M
  have N:es[j]?=some e0:=by simpa using h2
  refine ⟨setBlock w r (.map (es.modify j (fun e => {e with key:=kV k,val:=v})) clock),fun n => ?_,⟨_,_,gj o,?_,?_,?_,?_⟩,gy o,by simp [setBlock]⟩
  ·simp [Instr.mapUpdate,aL D,aK (d n),ib,s,N,h3,o4,bh _ (d n),Result.andThen]
   rfl
  ·rw [bJ,cX _ _ _ _ h2,cY,hl,cY]
  ·intro x b
   rw [bJ,cX _ _ _ _ h2] at b
   rcases cS b with b | rfl
   ·exact hc x b
   ·exact hc e0 (aV h2)
  ·rw [bJ,cX _ _ _ _ h2,cY]
   rw [set_self _ _ _ (by rw [bd,h2];rfl)]
   exact E
  ·show ((l.set j (k,v)).map (·.1)).Nodup
   rw [oZ C]
   exact hk
theorem iA {α β:Type} (f : α→β):∀ (l:List α) (j:Nat),(l.eraseIdx j).map f=(l.map f).eraseIdx j
 | [],_=>by simp
 | x::l,0=>rfl
 | x::l,j+1=>by simp [iA f l j]
theorem fY.delete (h:fY w r l) (s:Tryz.prog.underlying mt=some (.map 103 e)) (k:K) (t2 ty:TypeId) :
  ∃ m,(∀ n,(Builtin.delete_ #[mt,t2] ty #[.map (some r),kV k]).run Tryz.prog (w.drewN n) = .ok (.tuple #[]) (m.drewN n))∧fY m r (vU k l)∧w.grownBy m (some r)∧m.heap.size=w.heap.size:=by
 obtain ⟨es,clock,i,hl,hc,y,hk⟩:=h
 have o:∀ n,(Instr.findKey 103 (kV k) es.toList).run Tryz.prog (w.drewN n) = .ok (gN k l 0) (w.drewN n):=fun n=>kF k (w.drewN n) es.toList l hl
 have d:∀ n,(w.drewN n).heap[r]?=some (.map es clock):=fun n=>i
 unfold vU
 cases q:gN k l 0 with
 | none =>
  rw [q] at o
  refine ⟨setBlock w r (.map es clock),fun n => ?_,⟨_,_,gj i,hl,hc,y,hk⟩,gy i,by simp [setBlock]⟩
  simp [Builtin.delete_,aL s,aK (d n),ib,o,bh _ (d n),Result.andThen]
  rfl
 | some x =>
  obtain ⟨j,u⟩:=x
  rw [q] at o
  have b:(es.eraseIdxIfInBounds j).toList=es.toList.eraseIdx j:=by
   unfold Array.eraseIdxIfInBounds
   split
   ·simp
   ·rw [List.eraseIdx_of_length_le (by rw [dh];omega)]
  refine ⟨setBlock w r (.map (es.eraseIdxIfInBounds j) clock),fun n => ?_,⟨_,_,gj i,?_,?_,?_,?_⟩,gy i,by simp [setBlock]⟩
  ·simp [Builtin.delete_,aL s,aK (d n),ib,o,bh _ (d n),Result.andThen]
   rfl
  ·rw [b,iA,hl,iA]
  ·intro x B
   rw [b] at B
   exact hc x ((dN _ _).subset B)
  ·rw [b,iA]
   exact y.sublist (dN _ _)
  ·show ((l.eraseIdx j).map (·.1)).Nodup
   rw [iA]
   exact hk.sublist (dN _ _)
end
end Go.Proofs.YtkkfmkhbdoeglabGreatDoor
namespace Go.Proofs.YtkkfmkhbdoeglabGreatDoor
open Go.RowKit
structure OpB where
 kind:Int
 table:Int
 key:List UInt8
 val:List UInt8
deriving DecidableEq
def zu (o:OpB):Value := .agg #[.int .i64 o.kind,.int .i64 o.table,.string ⟨o.key.toArray⟩,.string ⟨o.val.toArray⟩]
def gQ (w:World) (r:Nat) (b:List K):Prop:=fY w r (b.map fun k=>(k,.int .i64 1))
theorem nm {w w1 w2:World} {c:Option Nat} (h:w.grownBy w1 c) (k:w1.grownBy w2 c):w.grownBy w2 c :=
 ⟨k.os.trans h.os,k.tape.trans h.tape,k.output.trans h.output,aH h.size k.size,fun i d b=>(k.block i (aC d h.size) b).trans (h.block i d b)⟩
theorem zh {w w1 w2:World} {c:Option Nat} {r:Nat} (h:w.grownBy w1 c) (k:w1.grownBy w2 (some r)) (j:w.heap.size≤r):w.grownBy w2 c :=
 ⟨k.os.trans h.os,k.tape.trans h.tape,k.output.trans h.output,aH h.size k.size,fun i b d=>(k.block i (aC b h.size) (fun e=>by cases e;omega)).trans (h.block i b d)⟩
theorem CurAt.qL {w:World} {base c:Nat} {cu:Cu} (h:CurAt w base c cu) (b:cu.f≠none):∃ g,w.cell? ⟨c,3,none⟩=some (.pointer (some ⟨g,0,none⟩)):=by
 obtain ⟨h1,h2,h3,h4,v,fp,h5,h6,h7,h8⟩:=h
 obtain ⟨x,d⟩:=eY.1 b
 rw [d] at h8
 obtain ⟨g,rfl,-,-⟩:=h8
 exact ⟨g,ae w c 3 _ _ _ h5⟩
theorem CurAt.j4 {w:World} {base c:Nat} {cu:Cu} (h:CurAt w base c cu) (b:cu.f=none):w.cell? ⟨c,3,none⟩=some (.pointer none):=by
 obtain ⟨h1,h2,h3,h4,v,fp,h5,h6,h7,h8⟩:=h
 rw [b] at h8
 obtain rfl:fp=none:=h8
 exact ae w c 3 _ _ _ h5
theorem IT (base c r:Nat) (cu:Cu) (x y:UInt8) (d j:Bool) (w:World) (h:CurAt w base c cu) (hb:base≤w.heap.size) (X:(cu.take 2).2=[x,y])
  (hk:(x.toNat<1∧d=false)∨(1≤x.toNat∧x.toNat<2∧d=true)∨(2≤x.toNat∧x.toNat<3∧d=true)∨(3≤x.toNat∧d=false)) (E:(y.toNat<3∧j=true)∨(3≤y.toNat∧j=false))
  (N:(((cu.take 2).1.jC d 6).jC j 6).f≠none) :
  Calls Tryz.prog 187 #[.pointer (some ⟨c,0,none⟩),.map (some r)] w fun e w'=>e = .returned (zu ⟨x.toNat,y.toNat,[],[]⟩)∧CurAt w' base c (((cu.take 2).1.jC d 6).jC j 6)∧w.grownBy w' (some c):=by
 have hx:=x.toNat_lt
 have hy:=y.toNat_lt
 have Y:=ab (fR w (.cells #[.int .i64 0,.int .i64 0,.string ⟨#[]⟩,.string ⟨#[]⟩] 105))
 have O:=h.lt
 have Z:=ab N
 clear N
 have hd:decide ((y.toNat:Int)<3)=j:=by
  rcases E with ⟨h,rfl⟩ | ⟨h,rfl⟩
  ·exact cK (by omega)
  ·exact bY (by omega)
 have HD:=ab hd
 have Q:((x.toNat:Int)==1 || (x.toNat:Int)==2)=d:=by
  rcases hk with ⟨h,rfl⟩ | ⟨h,h',rfl⟩ | ⟨h,h',rfl⟩ | ⟨h,rfl⟩
  ·rw [eR,aA,aA];omega
  ·rw [dJ,a8,a8];omega
  ·rw [dJ,a8,a8];omega
  ·rw [eR,aA,aA];omega
 have R:=ab Q
 clear hd E Q
 have S:w.heap.size<(w.alloc (.cells #[.int .i64 0,.int .i64 0,.string ⟨#[]⟩,.string ⟨#[]⟩] 105)).heap.size:=by simp
 go_enter Tryz.func187,Tryz.ntmps187
 go_wp2_with fail
 refine (jU base c cu 2 _ (h.gr ((Below.refl _ w).alloc (af _) _)) (by simp;omega) (by decide) (by decide)).mono ?_
 rintro e w1 ⟨v,rfl,I,-,F,q⟩
 rw [X] at I
 obtain ⟨a,cap,rfl,J,s⟩:=I.opened
 obtain ⟨b,off,rfl,G⟩:=s 0 (by simp)
 obtain ⟨b',ak,he,U⟩:=s 1 (by simp)
 cases he
 simp only [cz,cj,ee] at G U
 have al:=fU G
 clear s I
 simp only [ar,aJ] at J
 have u:=q.size
 have H1:=ab ((q.block w.heap.size S (fun e=>by cases e;omega)).trans Y.out)
 have am:=F.lt
 go_wp2
 go_region
 have ht:((((x.toNat:Int)==1)=false∧((x.toNat:Int)==2)=false∧d=false)∨(((x.toNat:Int)==1)=true∧d=true)∨(((x.toNat:Int)==1)=false∧((x.toNat:Int)==2)=true∧d=true)):=by
  rw [←R.out]
  cases h1:((x.toNat:Int)==1) <;> cases h2:((x.toNat:Int)==2) <;> simp
 clear hk
 rcases ht with ⟨t1,t2,rfl⟩ | ⟨t1,rfl⟩ | ⟨t1,t2,rfl⟩
 all_goals
  have H2:=ab (fR w1 (.cells #[.int .i64 x.toNat,.int .i64 y.toNat,.string ⟨#[]⟩,.string ⟨#[]⟩] 105))
  go_wp2_with fail
  try rw [R.out]
  refine (iO base c _ _ 6 _ (F.gr (((Below.refl _ w1).alloc (af _) _).drew)) (by simp at u⊢;omega)).mono ?_
  rintro e w2 ⟨rfl,M,m⟩
  have B:=ab ((m.block w1.heap.size (by simp) (fun e=>by cases e;omega)).trans H2.out)
  have V:=ab ((m.block w.heap.size (by simp at u⊢;omega) (fun e=>by cases e;omega)).trans (fX w1 _ H1.out))
  have d0:w2.cell? ⟨w1.heap.size,0,none⟩=some (.int .i64 x.toNat):=ae _ _ 0 _ _ _ B.out
  have d1:w2.cell? ⟨w1.heap.size,1,none⟩=some (.int .i64 y.toNat):=ae _ _ 1 _ _ _ B.out
  have aE:=fO B.out
  have W:=m.size
  go_wp2_with fail
  try rw [HD.out]
  refine (iO base c _ _ 6 _ M (by simp at u W⊢;omega)).mono ?_
  rintro e w3 ⟨rfl,l,C⟩
  have D:=ab ((C.block w1.heap.size (fO B.out) (fun e=>by cases e;omega)).trans B.out)
  have i:=ab ((C.block w.heap.size (fO V.out) (fun e=>by cases e;omega)).trans V.out)
  have q0:w3.cell? ⟨w1.heap.size,0,none⟩=some (.int .i64 x.toNat):=ae _ _ 0 _ _ _ D.out
  have q1:w3.cell? ⟨w1.heap.size,1,none⟩=some (.int .i64 y.toNat):=ae _ _ 1 _ _ _ D.out
  have q2:w3.cell? ⟨w1.heap.size,2,none⟩=some (.string ⟨#[]⟩):=ae _ _ 2 _ _ _ D.out
  have q3:w3.cell? ⟨w1.heap.size,3,none⟩=some (.string ⟨#[]⟩):=ae _ _ 3 _ _ _ D.out
  have p0:w3.cell? ⟨w.heap.size,0,none⟩=some (.int .i64 0):=ae _ _ 0 _ _ _ i.out
  have p1:w3.cell? ⟨w.heap.size,1,none⟩=some (.int .i64 0):=ae _ _ 1 _ _ _ i.out
  have p2:w3.cell? ⟨w.heap.size,2,none⟩=some (.string ⟨#[]⟩):=ae _ _ 2 _ _ _ i.out
  have p3:w3.cell? ⟨w.heap.size,3,none⟩=some (.string ⟨#[]⟩):=ae _ _ 3 _ _ _ i.out
  have e0:=aj _ _ 0 _ _ i.out
  have e1:=aj _ _ 1 _ _ i.out
  have e2:=aj _ _ 2 _ _ i.out
  have e3:=aj _ _ 3 _ _ i.out
  have a4:=fO D.out
  have a5:=fO i.out
  obtain ⟨g,a7⟩:=l.qL Z.out
  have a6:=l.lt
  go_wp2
  refine aI (v:=zu ⟨x.toNat,y.toNat,[],[]⟩) (by simp [results,Tryz.results187,go_sem,zu,p0,p1,p2,p3]) rfl ⟨rfl,?_,?_⟩
  ·exact l.grown (r:=w.heap.size) (gG (gG (gG (grownBy_set (Below.refl _ w3) 0 _) 1 _) 2 _) 3 _) O (fun k n=>by rw [i.out];simp)
  ·have g1:=nm (kG ((Below.refl _ w).alloc (af _) _) (some c)) q
   have g2:=fun o=>nm g1 (kG (((Below.refl _ w1).alloc (af _) o).drew) (some c))
   exact zh (nm (nm (g2 _) m) C) (gG (gG (gG (grownBy_set (Below.refl _ w3) 0 _) 1 _) 2 _) 3 _) (af _)
end Go.Proofs.YtkkfmkhbdoeglabGreatDoor
namespace Go.Proofs.YtkkfmkhbdoeglabGreatDoor
open Go.RowKit
theorem Bz (w:World) (l:List UInt8) (hl:l.length≤gF) :
  ∃ cap,(convert 9 112 (.string ⟨l.toArray⟩)).run Tryz.prog w = .ok (.slice (some ⟨w.heap.size,0,none⟩) l.length cap)
   (w.drew.alloc (.cells (bytesRow ⟨l.toArray⟩ cap) 5 ((bytesRow ⟨l.toArray⟩ cap).size,(bytesRow ⟨l.toArray⟩ cap).size+1)))∧
   OwnS (w.drew.alloc (.cells (bytesRow ⟨l.toArray⟩ cap) 5 ((bytesRow ⟨l.toArray⟩ cap).size,(bytesRow ⟨l.toArray⟩ cap).size+1))) w.heap.size 1 (.slice (some ⟨w.heap.size,0,none⟩) l.length cap) l.length (u8s l):=by
 have hs:(⟨l.toArray⟩:ByteArray).size=l.length:=by simp [ByteArray.size]
 have h:=run_bytes_of_string (P:=Tryz.prog) w 9 112 5 ⟨l.toArray⟩ Tryz.underlying9 Tryz.underlying112 Tryz.underlying5
 rw [hs] at h
 refine ⟨_,h,?_⟩
 have b:=grownCap_ge w l.length 0 5
 have hmx:maxLen=9223372036854775807:=rfl
 have d:=grownCap_le_maxLen w l.length 0 5 (by unfold gF at hl;omega)
 have i:(bytesRow ⟨l.toArray⟩ (grownCap w l.length 0 5)).size=grownCap w l.length 0 5:=by
  simp [bytesRow]
  omega
 have:=OwnS.new w.drew (bytesRow ⟨l.toArray⟩ (grownCap w l.length 0 5)) 5 (bytesRow ⟨l.toArray⟩ (grownCap w l.length 0 5)).size ((bytesRow ⟨l.toArray⟩ (grownCap w l.length 0 5)).size+1) w.heap.size 1 l.length (grownCap w l.length 0 5) (af _) b d (by omega) (.inr (by omega))
 have e:(bytesRow ⟨l.toArray⟩ (grownCap w l.length 0 5)).toList.take (l.length*1)=u8s l:=by
  simp [bytesRow,u8s]
 rw [e] at this
 exact this
theorem BH {o:Oper} {a:Act} {K:Act→World→Prop} {Q:Exit→Act→World→Prop} {w:World} (x:Operand) (d:o.op = .convert 9 112 x) (l:List UInt8) (i:a.eval x = .string ⟨l.toArray⟩) (hl:l.length≤gF)
  (h:∀ cap w',OwnS w' w.heap.size 1 (.slice (some ⟨w.heap.size,0,none⟩) l.length cap) l.length (u8s l)→Below w.heap.size w w'→w.heap.size<w'.heap.size→K (a.put o.dst (.slice (some ⟨w.heap.size,0,none⟩) l.length cap)) w'):o.wp Tryz.prog a w K Q:=by
 obtain ⟨cap,j,b⟩:=Bz w l hl
 have m:Below w.heap.size w (w.drew.alloc (.cells (bytesRow ⟨l.toArray⟩ cap) 5 ((bytesRow ⟨l.toArray⟩ cap).size,(bytesRow ⟨l.toArray⟩ cap).size+1))):=((Below.refl _ w).drew).alloc (af _) _
 unfold Oper.wp execOp
 simp only [d,i,cn,j,cg]
 exact h cap _ b m (by simp)
theorem lC {ops:Array Oper} {rest:List Oper} {o:Oper} {a:Act} {Q:Exit→Act→World→Prop} {w:World} (b:o.guard=none) (x:Operand) (d:o.op = .convert 9 112 x) (l:List UInt8) (i:a.eval x = .string ⟨l.toArray⟩) (hl:l.length≤gF)
  (h:∀ cap w',OwnS w' w.heap.size 1 (.slice (some ⟨w.heap.size,0,none⟩) l.length cap) l.length (u8s l)→Below w.heap.size w w'→w.heap.size<w'.heap.size→wpList Tryz.prog ops Q rest (a.put o.dst (.slice (some ⟨w.heap.size,0,none⟩) l.length cap)) w'):wpList Tryz.prog ops Q (o::rest) a w :=
 eK b fun _ hK=>BH x d l i hl fun cap w' h1 h2 h3=>hK _ _ (h cap w' h1 h2 h3)
theorem zO {o:Oper} {a:Act} {K:Act→World→Prop} {Q:Exit→Act→World→Prop} {w:World} (x:Operand) (b:o.op = .convert 112 9 x) (l:List UInt8) (d:BytesAt w (a.eval x) l)
  (h:K (a.put o.dst (.string ⟨l.toArray⟩)) w):o.wp Tryz.prog a w K Q:=by
 unfold Oper.wp execOp
 simp only [b,cn,d.convert,cg]
 exact h
theorem gR {ops:Array Oper} {rest:List Oper} {o:Oper} {a:Act} {Q:Exit→Act→World→Prop} {w:World} (b:o.guard=none) (x:Operand) (d:o.op = .convert 112 9 x) (l:List UInt8) (i:BytesAt w (a.eval x) l)
  (h:wpList Tryz.prog ops Q rest (a.put o.dst (.string ⟨l.toArray⟩)) w):wpList Tryz.prog ops Q (o::rest) a w :=
 eK b fun _ hK=>zO x d l i (hK _ _ h)
def byteOf (n:Int):UInt8:=UInt8.ofNat (n%256).toNat
theorem yY (n:Int):((byteOf n).toNat:Int)=n%256:=by
 unfold byteOf
 simp
 omega
theorem rA (kind:Int) (l:List UInt8) (w:World) (hl:l.length≤gF) :
  Calls Tryz.prog 82 #[.int .i64 kind,.string ⟨l.toArray⟩] w fun e w'=>e = .returned (.string ⟨(sealB (byteOf kind) l).toArray⟩)∧Below w.heap.size w w':=by
 have m:=ab (yY kind)
 go_enter Tryz.func82,Tryz.ntmps82
 go_wp2_with (first
  | (refine lC rfl (.tmp 7) rfl l rfl hl ?_;intro cap w1 b i o)
  | (go_at_call 121;rw [←m.out];refine (zX (byteOf kind) _ l _ b.bytes hl).mono ?_;rintro e w2 ⟨v2,rfl,d,j⟩)
  | (refine gR rfl (.tmp 9) rfl _ d.bytes ?_))
 go_ret
 exact ⟨rfl,i.trans (j.mono (by omega))⟩
end Go.Proofs.YtkkfmkhbdoeglabGreatDoor
namespace Go.Proofs.YtkkfmkhbdoeglabGreatDoor
open Go.RowKit
end Go.Proofs.YtkkfmkhbdoeglabGreatDoor
namespace Go.Proofs.YtkkfmkhbdoeglabGreatDoor
open Go.RowKit
theorem carry {w w':World} {c b:Nat} {o:Obj} (i:w.grownBy w' (some c)) (h:w.heap[b]?=some o) (d:b≠c):w'.heap[b]?=some o :=
 (i.block b (fO h) (fun e=>d (by cases e;rfl))).trans h
theorem BytesAt.name {w:World} {v:Value} {l:List UInt8} (h:BytesAt w v l):∃ m,m=l∧BytesAt w v m:=⟨l,rfl,h⟩
theorem Cu.nH (cu:Cu) (k:Nat):cu.jC true k=cu:=by
 unfold Cu.jC
 cases cu.f <;> rfl
theorem ShapesVar.grown {w w':World} {c:Nat} (h:ShapesVar w) (b:w.grownBy w' (some c)) (hc:2≤c):ShapesVar w' :=
 h.gr b.size (b.block _ (fU h.c0) (fun e=>by cases e;omega))
theorem fY.j4 {w:World} {r:Nat} {l:List (K×Value)} (h:fY w r l):∀ k n:Int,w.heap[r]?≠some (.cells #[.int .i64 k,.int .i64 n,.nilIface] 186 (0,0)):=fun k n e=>by
 obtain ⟨es,clock,h,_⟩:=h
 rw [h] at e
 cases e
theorem CurAt.eq {w:World} {base c:Nat} {cu cu':Cu} (h:CurAt w base c cu) (e:cu=cu'):CurAt w base c cu':=e▸h
theorem lV (k:K) (v:Value) (l:List (K×Value)):nE k (mS k v l)=some v:=by
 have go:∀ (l:List (K×Value)) (i:Nat),nE k (match gN k l i with | some (j,_)=>l.set (j-i) (k,v) | none=>l++[(k,v)])=some v:=by
  intro l
  induction l with
  | nil=>intro i;simp [gN,nE]
  | cons x l ih =>
   intro i
   unfold gN
   cases hk:(k==x.1) with
   | true=>simp [nE]
   | false =>
    rw [au (by simp)]
    have h:=ih (i+1)
    cases b:gN k l (i+1) with
    | none =>
     rw [b] at h
     unfold nE at h⊢
     rw [aX,dW,hk]
     exact h
    | some y =>
     obtain ⟨j,u⟩:=y
     rw [b] at h
     have d:=(jI k l (i+1) j u b).1
     unfold nE at h⊢
     simp only at h⊢
     rw [show j-i=(j-(i+1))+1 by omega,ao,dW,hk]
     exact h
 have h:=go l 0
 unfold mS
 cases b:gN k l 0 with
 | none=>rw [b] at h;exact h
 | some y =>
  obtain ⟨j,u⟩:=y
  rw [b] at h
  exact h
theorem sp (k:K) (b:List K):(nE k (b.map fun k=>(k,(Value.int .i64 1)))).getD (.int .i64 0) = .int .i64 (if b.contains k then 1 else 0):=by
 unfold nE
 induction b with
 | nil=>rfl
 | cons x b ih =>
  rw [bq,dW,List.contains_cons]
  cases hk:(k==x) with
  | true=>rfl
  | false=>simpa using ih
def Cu.me (C:Cu) (i T:Int) (l:List K) (b j:Nat):Cu×OpB :=
 let d:=((C.take b).1.jC (iz T (C.take b).2) 7).jC (!(l.contains (T,(C.take b).2))) 8
 if i=1 then ((d.take j).1.jC (gL T (d.take j).2) 9,⟨i,T,(C.take b).2,(d.take j).2⟩)
 else (d,⟨i,T,(C.take b).2,[]⟩)
theorem Cu.rR {cu:Cu} {ok:Bool} {k:Nat} (h:(cu.jC ok k).f=none):cu.f=none∧ok=true:=by
 unfold Cu.jC at h
 cases hc:cu.f with
 | some x=>rw [hc] at h;rw [hc] at h;cases h
 | none =>
  rw [hc] at h
  cases ok with
  | true=>exact ⟨rfl,rfl⟩
  | false=>cases h
theorem Cu.GR {cu:Cu} {n:Nat} (h:(cu.take n).1.f=none):cu.f=none:=by
 unfold Cu.take at h
 cases hc:cu.f with
 | some x=>rw [hc] at h;rw [hc] at h;cases h
 | none=>rfl
theorem uv {C:Cu} {i T:Int} {b:List K} {d j:Nat} (h:(C.me i T b d j).1.f=none):b.contains (T,(C.take d).2)=false:=by
 unfold Cu.me at h
 simp only at h
 split at h
 ·simpa using (Cu.rR (Cu.GR (Cu.rR h).1)).2
 ·simpa using (Cu.rR h).2
theorem qU (k:K) (b:List K) (h:b.contains k=false):mS k (.int .i64 1) (b.map fun k=>(k,(Value.int .i64 1)))=(b++[k]).map fun k=>(k,(Value.int .i64 1)):=by
 have d:gN k (b.map fun k=>(k,(Value.int .i64 1))) 0=none:=pz k _ 0 fun x i=>by
  obtain ⟨y,j,rfl⟩:=aB.1 i
  intro e
  have:b.contains k=true:=by rw [List.contains_iff_mem];exact e▸j
  rw [h] at this
  cases this
 unfold mS
 rw [d]
 simp
theorem Ext.grow {S:Nat→Prop} {a w w':World} {i:Nat} (h:Ext S a w) (g:w.grownBy w' (some i)) (b:S i∨a.heap.size≤i):Ext S a w' :=
 ⟨g.os.trans h.os,g.tape.trans h.tape,g.output.trans h.output,aH h.size g.size,fun k hk hs=>(g.block k (aC hk h.size) (fun e=>by cases e;rcases b with b | b;exact hs b;omega)).trans (h.block k hk hs)⟩
theorem Ext.rT {S:Nat→Prop} {a w w':World} (h:Ext S a w) (g:Below w.heap.size w w'):Ext S a w' :=
 ⟨g.os.trans h.os,g.tape.trans h.tape,g.output.trans h.output,aH h.size g.size,fun k hk hs=>(g.block k (aC hk h.size)).trans (h.block k hk hs)⟩
end Go.Proofs.YtkkfmkhbdoeglabGreatDoor
