/- A part of what is proved here: lemmas and contracts of single functions. No condition but those that each names. -/
import Derived.Test.YtkkfmkhbdoeglaaGreatDoorG00
import Derived.BigRegion
import Derived.Deep.OwnRows
import Derived.Test.YtkkfmkhbdoeglaaGreatDoorG02
set_option maxRecDepth 100000
namespace Go.Proofs.YtkkfmkhbdoeglaaGreatDoor
open Go.RowKit
structure Cu where
 l:List UInt8
 at':Nat
 to:Nat
 f:Option (Nat×Nat)
def Cu.take (c:Cu) (n:Nat):Cu×List UInt8 :=
 match c.f with
 | some _=>(c,List.replicate n 0)
 | none=>if c.l.length<c.to+n then ({c with f:=some (1,c.to)},List.replicate n 0) else ({c with at':=c.to,to:=c.to+n},(c.l.drop c.to).take n)
def Cu.ja (c:Cu) (ok:Bool) (k:Nat):Cu :=
 match c.f with
 | some _=>c
 | none=>if ok then c else {c with f:=some (k,c.at')}
def Cu.ended (c:Cu):Cu :=
 match c.f with
 | some _=>c
 | none=>if c.to<c.l.length then {c with f:=some (2,c.to)} else c
def tz (w:World) (base:Nat) (fp:Option Addr) (f:Option (Nat×Nat)):Prop :=
 match f with
 | none=>fp=none
 | some (k,n)=>∃ g,fp=some ⟨g,0,none⟩∧base≤g∧w.heap[g]?=some (.cells #[.int .i64 k,.int .i64 n,.nilIface] 166 (0,0))
def CurAt (w:World) (base c:Nat) (cu:Cu):Prop :=
 cu.to≤cu.l.length∧cu.at'≤cu.to∧cu.l.length≤fX∧base≤c∧
 ∃ v fp,w.heap[c]?=some (.cells #[v,.int .i64 cu.at',.int .i64 cu.to,.pointer fp] 211 (0,0))∧BytesAt w v cu.l∧(∀ b,v.ownBlock=some b→b<c)∧tz w base fp cu.f
theorem tz.fP {w w':World} {base:Nat} {fp:Option Addr} {f:Option (Nat×Nat)} (h:tz w base fp f) (b:∀ g,base≤g→(∃ k n,w.heap[g]?=some (.cells #[.int .i64 k,.int .i64 n,.nilIface] 166 (0,0)))→w'.heap[g]?=w.heap[g]?):tz w' base fp f:=by
 cases f with
 | none=>exact h
 | some x =>
  obtain ⟨g,h1,h2,h3⟩:=h
  exact ⟨g,h1,h2,by rw [b g h2 ⟨_,_,h3⟩];exact h3⟩
theorem CurAt.lt {w:World} {base c:Nat} {cu:Cu} (h:CurAt w base c cu):c<w.heap.size:=by
 obtain ⟨h1,h2,h3,h4,v,fp,h5,h6⟩:=h
 exact fw h5
theorem CurAt.fP {w w':World} {base c:Nat} {cu:Cu} (h:CurAt w base c cu) (b:Below w.heap.size w w'):CurAt w' base c cu:=by
 obtain ⟨h1,h2,h3,h4,v,fp,h5,h6,h7,h8⟩:=h
 refine ⟨h1,h2,h3,h4,v,fp,fy b (fw h5) h5,h6.below b,h7,h8.fP fun g _ ⟨k,n,d⟩=>b.block g (fw d)⟩
theorem CurAt.grown {w w':World} {base c:Nat} {cu:Cu} {r:Nat} (h:CurAt w base c cu) (d:w.grownBy w' (some r)) (m:c<r) (j:∀ k n,w.heap[r]?≠some (.cells #[.int .i64 k,.int .i64 n,.nilIface] 166 (0,0))):CurAt w' base c cu:=by
 obtain ⟨h1,h2,h3,h4,v,fp,h5,h6,h7,h8⟩:=h
 refine ⟨h1,h2,h3,h4,v,fp,?_,fH.grown h6 d ?_,h7,h8.fP fun g _ ⟨k,n,i⟩ => ?_⟩
 ·rw [d.block c (fw h5) (fun e=>by cases e;omega)]
  exact h5
 ·intro b l e
  cases e
  exact absurd (h7 _ l) (by omega)
 ·exact d.block g (fw i) (fun e=>by cases e;exact j k n i)
theorem grownBy_set {w w1:World} {c:Nat} (b:Below w.heap.size w w1) (i:Nat) (v:Value):w.grownBy (w1.setCell ⟨c,i,none⟩ v) (some c) :=
 ⟨b.os,b.tape,b.output,by rw [size_setCell];exact b.size,fun k hk d=>(Below.heap_setCell w1 ⟨c,i,none⟩ v k (fun e=>d (by rw [e]))).trans (b.block k hk)⟩
theorem grownBy_alloc {w w1:World} {r:Option Nat} (b:w.grownBy w1 r) (o:Obj):w.grownBy (w1.alloc o) r :=
 ⟨b.os,b.tape,b.output,aH b.size (by simp),fun k hk d=>(heap_alloc_old _ _ (ay hk b.size)).trans (b.block k hk d)⟩
theorem fY {w w1:World} {c:Nat} (b:w.grownBy w1 (some c)) (i:Nat) (v:Value):w.grownBy (w1.setCell ⟨c,i,none⟩ v) (some c) :=
 ⟨b.os,b.tape,b.output,by rw [size_setCell];exact b.size,fun k hk d=>(Below.heap_setCell w1 ⟨c,i,none⟩ v k (fun e=>d (by rw [e]))).trans (b.block k hk d)⟩
theorem nC {w w1:World} {r:Option Nat} (b:w.grownBy w1 r) (m:Nat):w.grownBy (w1.drewN m) r:=⟨b.os,b.tape,b.output,b.size,b.block⟩
theorem BytesAt.cap' {w:World} {a:Option Addr} {n cap cap':Nat} {l:List UInt8} (h:BytesAt w (.slice a n cap) l) (hc:n≤cap'):BytesAt w (.slice a n cap') l:=by
 obtain ⟨hl,j,b,he,i,d⟩:=h
 cases he
 exact ⟨hl,a,cap',rfl,hc,d⟩
theorem yK (w:World) (n:Nat) (b:n≤100):BytesAt (w.alloc (.cells (madeCells #[.int .u8 0] n) 5)) (.slice (some ⟨w.heap.size,0,none⟩) n n) (List.replicate n 0):=by
 have hm:maxLen=9223372036854775807:=rfl
 have d:(madeCells #[Value.int .u8 0] n).size=n:=by simp [madeCells]
 have h:=OwnS.new w (madeCells #[.int .u8 0] n) 5 0 0 0 1 n n (aK _) (af _) (by omega) (by omega) (.inl (by omega))
 have e:(madeCells #[Value.int .u8 0] n).toList.take (n*1)=u8s (List.replicate n 0):=by
  rw [ei,Nat.mul_one,aS (by simp)]
  simp [u8s]
 rw [e] at h
 exact h.bytes
theorem BI (base c:Nat) (l:List UInt8) (at' to k p n:Nat) (w:World) (h:CurAt w base c ⟨l,at',to,some (k,p)⟩) (i:n≤100) :
  Calls Tryz.prog 121 #[.pointer (some ⟨c,0,none⟩),.int .i64 n] w fun e w'=>∃ v,e = .returned v∧BytesAt w' v (List.replicate n 0)∧v.ownBlock≠some c∧Below w.heap.size w w':=by
 obtain ⟨h1,h2,h3,h4,v,fp,h5,h6,h7,g,rfl,h8⟩:=h
 have c0:w.cell? ⟨c,0,none⟩=some (v):=ae w c 0 _ _ _ h5
 have c1:w.cell? ⟨c,1,none⟩=some (.int .i64 at'):=ae w c 1 _ _ _ h5
 have c2:w.cell? ⟨c,2,none⟩=some (.int .i64 to):=ae w c 2 _ _ _ h5
 have c3:w.cell? ⟨c,3,none⟩=some (.pointer (some ⟨g,0,none⟩)):=ae w c 3 _ _ _ h5
 have b:=fw h5
 clear h5
 have d:∀ w,(Instr.makeSlice 59 (.int .i64 n) (.int .i64 n)).run Tryz.prog w = .ok (.slice (some ⟨w.heap.size,0,none⟩) n n) (w.alloc (.cells (madeCells #[.int .u8 0] n) 5)):=fun w =>
  run_make_row' 59 5 (.int .u8 0) 1 Tryz.underlying59 (by kernel_rfl) rfl .i64 .i64 n (by omega) (by omega) w
 go_enter Tryz.func121,Tryz.ntmps121
 go_wp2
 go_quiet (fail)
 go_wp2
 go_ret
 exact ⟨_,rfl,yK _ n (by omega),by simp [Value.ownBlock];omega,((Below.refl _ w).drewN _).alloc (af _) _⟩
theorem Ae (base c:Nat) (l:List UInt8) (at' to n:Nat) (w:World) (h:CurAt w base c ⟨l,at',to,none⟩) (x:base≤w.heap.size) (y:n≤100) (hs:l.length<to+n) :
  Calls Tryz.prog 121 #[.pointer (some ⟨c,0,none⟩),.int .i64 n] w fun e w'=>∃ v,e = .returned v∧BytesAt w' v (List.replicate n 0)∧v.ownBlock≠some c∧CurAt w' base c ⟨l,at',to,some (1,to)⟩∧w.grownBy w' (some c):=by
 obtain ⟨h1,h2,h3,h4,v,fp,h5,h6,j,h8⟩:=h
 have h7:v.ownBlock≠some c:=fun e=>dw _ (j c e)
 obtain ⟨a,cap,rfl,B,-⟩:=h6.opened
 obtain rfl:fp=none:=h8
 have c0:w.cell? ⟨c,0,none⟩=some (.slice a l.length cap):=ae w c 0 _ _ _ h5
 have c1:w.cell? ⟨c,1,none⟩=some (.int .i64 at'):=ae w c 1 _ _ _ h5
 have c2:w.cell? ⟨c,2,none⟩=some (.int .i64 to):=ae w c 2 _ _ _ h5
 have c3:w.cell? ⟨c,3,none⟩=some (.pointer none):=ae w c 3 _ _ _ h5
 have f3:=aj w c 3 _ _ h5
 have m:=fw h5
 have C:=ab h5
 simp only [] at h1 h2 h3
 unfold fX at h3
 clear h5
 have F:(l.length:Int)-to<n:=by omega
 have G:∀ w,(Instr.makeSlice 59 (.int .i64 n) (.int .i64 n)).run Tryz.prog w = .ok (.slice (some ⟨w.heap.size,0,none⟩) n n) (w.alloc (.cells (madeCells #[.int .u8 0] n) 5)):=fun w =>
  run_make_row' 59 5 (.int .u8 0) 1 Tryz.underlying59 (by kernel_rfl) rfl .i64 .i64 n (by omega) (by omega) w
 go_enter Tryz.func121,Tryz.ntmps121
 go_wp2
 go_quiet (fail)
 go_wp2_with (go_at_call 85;refine (gd _ _ _).mono ?_;rintro e w1 ⟨rfl,d⟩;have o:Below w.heap.size w w1:=(by rw [d];exact ((Below.refl _ w).drewN _).alloc (af _) _);have i:=ab (fy o m C.out);have g1:w1.heap[w.heap.size]?=some (.cells #[.int .i64 1,.int .i64 to,.nilIface] 166 (0,0)):=(by rw [d];exact fA (w.drewN _) _);have s:=ab g1;clear g1;have d3:w1.cell? ⟨c,3,none⟩=some (.pointer none):=ae _ c 3 _ _ _ i.out;have I:w1.frozen? ⟨c,3,none⟩=false:=aj _ c 3 _ _ i.out;have r:c<w1.heap.size:=fw i.out;clear d)
 go_ret
 have u:=fw s.out
 have D:=heap_setCell w1 c 3 (.pointer (some ⟨w.heap.size,0,none⟩)) i.out
 have q:w.grownBy (w1.setCell ⟨c,3,none⟩ (.pointer (some ⟨w.heap.size,0,none⟩))) (some c):=grownBy_set o _ _
 refine ⟨_,rfl,by have z:=yK (w1.setCell ⟨c,3,none⟩ (.pointer (some ⟨w.heap.size,0,none⟩))) n y;rw [size_setCell] at z;exact z,by simp [Value.ownBlock];omega,⟨h1,h2,by simp only [];unfold fX;omega,h4,.slice a l.length cap,some ⟨w.heap.size,0,none⟩,?_,?_,j,w.heap.size,rfl,x,?_⟩,grownBy_alloc q _⟩
 ·rw [heap_alloc_old _ _ (by rw [size_setCell];exact r),D];rfl
 ·exact fH.grown (h6) (grownBy_alloc q _) (fun b E e=>h7 (by rw [E,e]))
 ·rw [heap_alloc_old _ _ (by rw [size_setCell];exact u)]
  exact (Below.heap_setCell w1 ⟨c,3,none⟩ _ w.heap.size (Nat.ne_of_gt m)).trans s.out
theorem Cz (base c:Nat) (l:List UInt8) (at' to n:Nat) (w:World) (h:CurAt w base c ⟨l,at',to,none⟩) (F:n≤100) (C:1≤n) (hs:to+n≤l.length) :
  Calls Tryz.prog 121 #[.pointer (some ⟨c,0,none⟩),.int .i64 n] w fun e w'=>∃ v,e = .returned v∧BytesAt w' v ((l.drop to).take n)∧v.ownBlock≠some c∧CurAt w' base c ⟨l,to,to+n,none⟩∧w.grownBy w' (some c):=by
 obtain ⟨h1,h2,h3,h4,v,fp,h5,h6,d,h8⟩:=h
 have h7:v.ownBlock≠some c:=fun e=>dw _ (d c e)
 obtain ⟨a,cap,rfl,o,q⟩:=h6.opened
 obtain rfl:fp=none:=h8
 obtain ⟨b,off,rfl,-⟩:=q 0 (by simp only [] at hs⊢;omega)
 have c0:w.cell? ⟨c,0,none⟩=some (.slice (some ⟨b,off,none⟩) l.length cap):=ae w c 0 _ _ _ h5
 have c1:w.cell? ⟨c,1,none⟩=some (.int .i64 at'):=ae w c 1 _ _ _ h5
 have c2:w.cell? ⟨c,2,none⟩=some (.int .i64 to):=ae w c 2 _ _ _ h5
 have c3:w.cell? ⟨c,3,none⟩=some (.pointer none):=ae w c 3 _ _ _ h5
 have f1:=aj w c 1 _ _ h5
 have f2:=aj w c 2 _ _ h5
 have f3:=aj w c 3 _ _ h5
 have D:=fw h5
 have x:=ab h5
 have G:=ab q
 simp only [] at h1 h2 h3 o
 unfold fX at h3
 clear h5 q
 have I:(to:Int)≤to+n:=by omega
 have J:(to:Int)+n≤cap:=by omega
 have M:to+n≤cap:=by omega
 have N:¬(to:Int)+n<0:=by omega
 have E:¬(l.length:Int)-to<n:=by omega
 go_enter Tryz.func121,Tryz.ntmps121
 go_wp2
 go_quiet (fail)
 go_wp2
 go_region
 all_goals (go_wp2;go_quiet (fail);go_wp2)
 go_ret
 have y:to+n-to=n:=by omega
 have r:=heap_setCell w c 1 (.int .i64 to) x.out
 have s:=heap_setCell (w.setCell ⟨c,1,none⟩ (.int .i64 to)) c 2 (.int .i64 (to+n:Nat)) r
 have i:∀ k m,w.grownBy ((((w.drewN k).setCell ⟨c,1,none⟩ (.int .i64 to)).setCell ⟨c,2,none⟩ (.int .i64 (to+n:Nat))).drewN m) (some c):=fun k m =>
  nC (fY (grownBy_set ((Below.refl _ w).drewN k) 1 _) 2 _) m
 have j:∀ k m,BytesAt ((((w.drewN k).setCell ⟨c,1,none⟩ (.int .i64 to)).setCell ⟨c,2,none⟩ (.int .i64 (to+n:Nat))).drewN m) (.slice (some ⟨b,off,none⟩) l.length cap) l:=fun k m =>
  fH.grown h6 (i k m) (fun b B e=>h7 (by rw [B,e]))
 refine ⟨_,rfl,?_,h7,⟨hs,dW _ _,by simp only [];unfold fX;omega,h4,.slice (some ⟨b,off,none⟩) l.length cap,none,s,j _ _,d,rfl⟩,i _ _⟩
 have u:(l.take (to+n)).drop to=(l.drop to).take n:=by rw [List.drop_take,y]
 rw [←u]
 exact ((j _ _).sub to (to+n) (dW _ _) hs).cap' (af _)
theorem jQ {w w':World} (b:Below w.heap.size w w') (r:Option Nat):w.grownBy w' r:=⟨b.os,b.tape,b.output,b.size,fun k hk _=>b.block k hk⟩
theorem js (base c:Nat) (cu:Cu) (n:Nat) (w:World) (h:CurAt w base c cu) (i:base≤w.heap.size) (b:n≤100) (d:1≤n) :
  Calls Tryz.prog 121 #[.pointer (some ⟨c,0,none⟩),.int .i64 n] w fun e w'=>∃ v,e = .returned v∧BytesAt w' v (cu.take n).2∧v.ownBlock≠some c∧CurAt w' base c (cu.take n).1∧w.grownBy w' (some c):=by
 obtain ⟨l,at',to,f⟩:=cu
 cases f with
 | some x =>
  obtain ⟨k,p⟩:=x
  exact (BI base c l at' to k p n w h b).mono fun e w' ⟨v,h1,h2,h3,h4⟩=>⟨v,h1,h2,h3,h.fP h4,jQ h4 _⟩
 | none =>
  by_cases hs:l.length<to+n
  ·simp only [Cu.take,aB hs]
   exact Ae base c l at' to n w h i b hs
  ·simp only [Cu.take,au hs]
   exact Cz base c l at' to n w h b d (by omega)
theorem CurAt.qI {w w1:World} {base c:Nat} {l:List UInt8} {at' to:Nat} (h:CurAt w base c ⟨l,at',to,none⟩) (q:base≤w.heap.size) (k n:Nat) (m:Nat)
  (hw:w1=(w.drewN m).alloc (.cells #[.int .i64 k,.int .i64 n,.nilIface] 166)) :
  CurAt (w1.setCell ⟨c,3,none⟩ (.pointer (some ⟨w.heap.size,0,none⟩))) base c ⟨l,at',to,some (k,n)⟩∧w.grownBy (w1.setCell ⟨c,3,none⟩ (.pointer (some ⟨w.heap.size,0,none⟩))) (some c):=by
 obtain ⟨h1,h2,h3,h4,v,fp,h5,h6,d,h8⟩:=h
 have h7:v.ownBlock≠some c:=fun e=>dw _ (d c e)
 have i:=fw h5
 have j:Below w.heap.size w w1:=by rw [hw];exact ((Below.refl _ w).drewN _).alloc (af _) _
 have g1:w1.heap[w.heap.size]?=some (.cells #[.int .i64 k,.int .i64 n,.nilIface] 166 (0,0)):=by rw [hw];exact fA (w.drewN _) _
 have o:=grownBy_set j 3 (.pointer (some ⟨w.heap.size,0,none⟩)) (c:=c)
 refine ⟨⟨h1,h2,h3,h4,v,some ⟨w.heap.size,0,none⟩,heap_setCell w1 c 3 _ (fy j i h5),fH.grown h6 o (fun b r e=>h7 (by rw [r,e])),d,w.heap.size,rfl,q,?_⟩,o⟩
 exact (Below.heap_setCell w1 ⟨c,3,none⟩ _ w.heap.size (Nat.ne_of_gt i)).trans g1
theorem DD (base c:Nat) (cu:Cu) (ok:Bool) (k:Nat) (w:World) (h:CurAt w base c cu) (b:cu.f≠none∨ok=true) :
  Calls Tryz.prog 142 #[.pointer (some ⟨c,0,none⟩),.bool ok,.int .i64 k] w fun e w'=>e = .returned (.tuple #[])∧CurAt w' base c (cu.ja ok k)∧w.grownBy w' (some c):=by
 have hm:cu.ja ok k=cu:=by
  unfold Cu.ja
  rcases b with b | b
  ·cases hc:cu.f with
   | none=>exact absurd hc b
   | some x=>rfl
  ·cases hc:cu.f with
   | none=>simp [b]
   | some x=>rfl
 rw [hm]
 have H:=ab h
 obtain ⟨h1,h2,h3,h4,v,fp,h5,h6,h7,h8⟩:=h
 have c3:w.cell? ⟨c,3,none⟩=some (.pointer fp):=ae w c 3 _ _ _ h5
 have l:=fw h5
 clear h5 h6 hm
 by_cases d:ok=true
 ·subst d
  by_cases hc:fp=none
  ·subst hc
   go_enter Tryz.func142,Tryz.ntmps142
   go_wp2
   go_end0
   exact ⟨rfl,H.out,jQ (Below.refl _ w) _⟩
  ·obtain ⟨a,rfl⟩:=eH.1 hc
   go_enter Tryz.func142,Tryz.ntmps142
   go_wp2
   go_end0
   exact ⟨rfl,H.out,jQ (Below.refl _ w) _⟩
 ·have i:cu.f≠none:=b.resolve_right d
  obtain ⟨x,j⟩:=eH.1 i
  rw [j] at h8
  obtain ⟨g,rfl,-,-⟩:=h8
  clear b i j
  go_enter Tryz.func142,Tryz.ntmps142
  go_wp2
  go_end0
  exact ⟨rfl,H.out,jQ (Below.refl _ w) _⟩
theorem Bi (base c:Nat) (l:List UInt8) (at' to k:Nat) (w:World) (h:CurAt w base c ⟨l,at',to,none⟩) (m:base≤w.heap.size) :
  Calls Tryz.prog 142 #[.pointer (some ⟨c,0,none⟩),.bool false,.int .i64 k] w fun e w'=>e = .returned (.tuple #[])∧CurAt w' base c ⟨l,at',to,some (k,at')⟩∧w.grownBy w' (some c):=by
 have H:=ab h
 obtain ⟨h1,h2,h3,h4,v,fp,h5,h6,h7,h8⟩:=h
 obtain rfl:fp=none:=h8
 have c3:w.cell? ⟨c,3,none⟩=some (.pointer none):=ae w c 3 _ _ _ h5
 have c1:w.cell? ⟨c,1,none⟩=some (.int .i64 at'):=ae w c 1 _ _ _ h5
 have j:=ab h5
 have b:=fw h5
 clear h5 h6
 go_enter Tryz.func142,Tryz.ntmps142
 go_wp2_with (go_at_call 85;refine (gd _ _ _).mono ?_;rintro e w1 ⟨rfl,d⟩;have o:=ab d;have i:Below w.heap.size w w1:=(by rw [d];exact (Below.refl _ w).alloc (af _) _);have d3:w1.cell? ⟨c,3,none⟩=some (.pointer none):=ae _ c 3 _ _ _ (fy i b j.out);have r:w1.frozen? ⟨c,3,none⟩=false:=aj _ c 3 _ _ (fy i b j.out);have q:c<w1.heap.size:=fw (fy i b j.out);clear d)
 go_end0
 exact ⟨rfl,H.out.qI m k at' 0 o.out⟩
theorem ig (base c:Nat) (cu:Cu) (ok:Bool) (k:Nat) (w:World) (h:CurAt w base c cu) (d:base≤w.heap.size) :
  Calls Tryz.prog 142 #[.pointer (some ⟨c,0,none⟩),.bool ok,.int .i64 k] w fun e w'=>e = .returned (.tuple #[])∧CurAt w' base c (cu.ja ok k)∧w.grownBy w' (some c):=by
 by_cases b:cu.f≠none∨ok=true
 ·exact DD base c cu ok k w h b
 ·obtain ⟨l,at',to,f⟩:=cu
  have h1:f=none:=by simpa using (not_or.1 b).1
  have h2:ok=false:=by simpa using (not_or.1 b).2
  subst h1 h2
  exact Bi base c l at' to k w h d
end Go.Proofs.YtkkfmkhbdoeglaaGreatDoor
namespace Go.Proofs.YtkkfmkhbdoeglaaGreatDoor
open Go.RowKit
def iw (l:List UInt8):Nat:=l.foldl (fun v x=>v*256+x.toNat) 0
theorem C5 (l:List UInt8) (x:UInt8):iw (l++[x])=iw l*256+x.toNat:=by simp [iw]
theorem pN (l:List UInt8) (k:Nat) (h:k<l.length):iw (l.take (k+1))=iw (l.take k)*256+l[k].toNat:=by
 rw [aW h,C5]
theorem pV:∀ (k:Nat) (l:List UInt8),k≤l.length→iw (l.take k)<256^k
 | 0,l,_=>by simp [iw]
 | k+1,l,h=>by
  have ih:=pV k l (by omega)
  have b:=(l[k]'(by omega)).toNat_lt
  rw [pN l k (by omega),Nat.pow_succ]
  omega
theorem Bu (base c:Nat) (cu:Cu) (w:World) (h:CurAt w base c cu) (d:cu.f≠none∨¬cu.to<cu.l.length) :
  Calls Tryz.prog 143 #[.pointer (some ⟨c,0,none⟩)] w fun e w'=>e = .returned (.tuple #[])∧CurAt w' base c cu.ended∧w.grownBy w' (some c):=by
 have hm:cu.ended=cu:=by
  unfold Cu.ended
  cases hc:cu.f with
  | some x=>rfl
  | none=>simp [d.resolve_left (fun k=>k hc)]
 rw [hm]
 have H:=ab h
 obtain ⟨h1,h2,h3,h4,v,fp,h5,h6,h7,h8⟩:=h
 obtain ⟨a,cap,rfl,j,-⟩:=h6.opened
 have c0:w.cell? ⟨c,0,none⟩=some (.slice a cu.l.length cap):=ae w c 0 _ _ _ h5
 have c2:w.cell? ⟨c,2,none⟩=some (.int .i64 cu.to):=ae w c 2 _ _ _ h5
 have c3:w.cell? ⟨c,3,none⟩=some (.pointer fp):=ae w c 3 _ _ _ h5
 have o:=fw h5
 clear h5 h6 hm
 cases b:fp with
 | some p =>
  subst b
  go_enter Tryz.func143,Tryz.ntmps143
  go_wp2
  go_quiet (fail)
  go_wp2
  go_end0
  exact ⟨rfl,H.out.fP ((Below.refl _ w).drewN _),jQ ((Below.refl _ w).drewN _) _⟩
 | none =>
  subst b
  have i:cu.f=none:=by
   cases hc:cu.f with
   | none=>rfl
   | some x=>rw [hc] at h8;obtain ⟨g,m,_⟩:=h8;cases m
  have hle:¬(cu.to:Int)<cu.l.length:=by have:=d.resolve_left (fun k=>k i);omega
  go_enter Tryz.func143,Tryz.ntmps143
  go_wp2
  go_quiet (fail)
  go_wp2
  go_end0
  exact ⟨rfl,H.out.fP ((Below.refl _ w).drewN _),jQ ((Below.refl _ w).drewN _) _⟩
theorem yR (base c:Nat) (l:List UInt8) (at' to:Nat) (w:World) (h:CurAt w base c ⟨l,at',to,none⟩) (m:base≤w.heap.size) (hs:to<l.length) :
  Calls Tryz.prog 143 #[.pointer (some ⟨c,0,none⟩)] w fun e w'=>e = .returned (.tuple #[])∧CurAt w' base c ⟨l,at',to,some (2,to)⟩∧w.grownBy w' (some c):=by
 have H:=ab h
 obtain ⟨h1,h2,h3,h4,v,fp,h5,h6,h7,h8⟩:=h
 obtain ⟨a,cap,rfl,o,-⟩:=h6.opened
 obtain rfl:fp=none:=h8
 have c0:w.cell? ⟨c,0,none⟩=some (.slice a l.length cap):=ae w c 0 _ _ _ h5
 have c2:w.cell? ⟨c,2,none⟩=some (.int .i64 to):=ae w c 2 _ _ _ h5
 have c3:w.cell? ⟨c,3,none⟩=some (.pointer none):=ae w c 3 _ _ _ h5
 have j:=ab h5
 have b:=fw h5
 have s:(to:Int)<l.length:=by omega
 clear h5 h6
 go_enter Tryz.func143,Tryz.ntmps143
 go_wp2
 go_quiet (fail)
 go_wp2_with (go_at_call 85;refine (gd _ _ _).mono ?_;rintro e w1 ⟨rfl,d⟩;have q:=ab d;have i:Below w.heap.size w w1:=(by rw [d];exact ((Below.refl _ w).drewN _).alloc (af _) _);have d3:w1.cell? ⟨c,3,none⟩=some (.pointer none):=ae _ c 3 _ _ _ (fy i b j.out);have u:w1.frozen? ⟨c,3,none⟩=false:=aj _ c 3 _ _ (fy i b j.out);have r:c<w1.heap.size:=fw (fy i b j.out);clear d)
 go_end0
 exact ⟨rfl,H.out.qI m 2 to _ q.out⟩
theorem vU (base c:Nat) (cu:Cu) (w:World) (h:CurAt w base c cu) (d:base≤w.heap.size) :
  Calls Tryz.prog 143 #[.pointer (some ⟨c,0,none⟩)] w fun e w'=>e = .returned (.tuple #[])∧CurAt w' base c cu.ended∧w.grownBy w' (some c):=by
 by_cases b:cu.f≠none∨¬cu.to<cu.l.length
 ·exact Bu base c cu w h b
 ·obtain ⟨l,at',to,f⟩:=cu
  have h1:f=none:=by simpa using (not_or.1 b).1
  have h2:to<l.length:=Decidable.not_not.1 (not_or.1 b).2
  subst h1
  simp only [Cu.ended,aB h2]
  exact yR base c l at' to w h d h2
theorem Cu.take_length (cu:Cu) (n:Nat):(cu.take n).2.length=n:=by
 unfold Cu.take
 cases cu.f with
 | some x=>simp
 | none =>
  by_cases h:cu.l.length<cu.to+n
  ·simp [h]
  ·simp [h];omega
theorem lL (base c:Nat) (cu:Cu) (w:World) (h:CurAt w base c cu) (u:base≤w.heap.size) :
  Calls Tryz.prog 120 #[.pointer (some ⟨c,0,none⟩)] w fun e w'=>e = .returned (.int .u64 (iw (cu.take 8).2))∧CurAt w' base c (cu.take 8).1∧w.grownBy w' (some c):=by
 obtain ⟨l,hl⟩:∃ l,l=(cu.take 8).2:=⟨_,rfl⟩
 have hlen:l.length=8:=by rw [hl,Cu.take_length]
 have x:=ab hl
 rw [←hl]
 clear hl
 go_enter Tryz.func120,Tryz.ntmps120
 go_wp2_with (go_at_call 121;refine (js base c cu 8 _ h u (by decide) (by decide)).mono ?_;rintro e w1 ⟨v,rfl,d,m,o,q⟩;rw [←x.out] at d;obtain ⟨a,cap,rfl,y,r⟩:=d.opened;have B:=ab r;clear r d m)
 go_loop [3,9] (fun c i=>∃ k:Nat,k≤8∧i = .int .i64 k∧c = .int .u64 (iw (l.take k))) (fun _ i=>8-(intOf i).toNat)
 case atStart=>exact ⟨0,by omega,rfl,by simp [iw]⟩
 case round =>
  obtain ⟨k,hk,rfl,rfl⟩:=hrel
  by_cases h8:k<8
  ·have j:=pV k l (by omega)
   have hle:iw (l.take k)<256^7:=ay j (eG (by decide) (by omega))
   have H:=ab (pN l k (by omega))
   obtain ⟨b,off,rfl,s⟩:=B.out k (by omega)
   have D:=(l[k]'(by omega)).toNat_lt
   generalize iw (l.take k)=v at *
   clear j
   have d:v<72057594037927936:=hle
   clear hle
   go_wp2
   go_round
   case rel =>
    refine ⟨k+1,by omega,by go_num,?_⟩
    have C:v*256 ||| (l[k]'(by omega)).toNat=v*256+(l[k]'(by omega)).toNat:=nat_join 8 _ _ (by omega) (by omega)
    rw [show ((v:Int)*256)=((v*256:Nat):Int) by omega,u64_or_nat _ _ (by omega) (by omega),C,H.out]
   case measure=>simp [intOf];omega
  ·obtain rfl:k=8:=by omega
   rw [aS (by omega)]
   go_wp2
   go_ret
   exact ⟨rfl,o,q⟩
end Go.Proofs.YtkkfmkhbdoeglaaGreatDoor
