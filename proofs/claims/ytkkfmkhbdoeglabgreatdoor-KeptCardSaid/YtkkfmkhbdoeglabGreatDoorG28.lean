/- A part of what is proved here: lemmas and contracts of single functions. No condition but those that each names. -/
import Derived.Test.YtkkfmkhbdoeglabGreatDoorG00
import Derived.Test.YtkkfmkhbdoeglabGreatDoorG15
import Derived.Test.YtkkfmkhbdoeglabGreatDoorG17
set_option maxHeartbeats 1000000
set_option maxRecDepth 100000
namespace Go.Proofs.YtkkfmkhbdoeglabGreatDoor
open Go.RowKit
def oN (w1:World) (g n:Nat) (i:Value) (wr:World):Prop :=
 ∃ k:Nat,k≤n∧i = .int .i64 k∧(∀ i,i<n→(wr.cell? ⟨g,i,none⟩).isSome=true∧wr.frozen? ⟨g,i,none⟩=false)∧g<wr.heap.size∧Ext (fun b=>b=g) w1 wr
theorem oN.step {w1 wr:World} {g n k:Nat} {v:Value} (hk:k<n) (h1:∀ i,i<n→(wr.cell? ⟨g,i,none⟩).isSome=true∧wr.frozen? ⟨g,i,none⟩=false) (h3:g<wr.heap.size) (h4:Ext (fun b=>b=g) w1 wr) :
  oN w1 g n (.int .i64 ((k+1:Nat):Int)) (wr.setCell ⟨g,k,none⟩ v):=by
 refine ⟨k+1,hk,rfl,fun i j => ?_,by rw [size_setCell];exact h3,h4.setCell _ _ (.inl rfl)⟩
 obtain ⟨hs,l⟩:=h1 i j
 refine ⟨?_,by rw [eN];exact l⟩
 by_cases d:i=k
 ·subst d
  obtain ⟨x,m⟩:=cC.1 hs
  rw [World.cell?_setCell_same (h:=m)]
  rfl
 ·rw [cH (h:=by simp <;> omega)]
  exact hs
end Go.Proofs.YtkkfmkhbdoeglabGreatDoor
namespace Go.Proofs.YtkkfmkhbdoeglabGreatDoor
open Go.RowKit
theorem uM (v:Nat) (sv:Value) (os:List OpB) (w:World) (hs:ix w sv os) (hg:ShapesVar w) (W:ErrVar w) (av:lF os) (f1 f2:Nat) (hw:gK v os=some (f1,f2)) (h1:1≤os.length) (h8:os.length≤2932031007402) :
  Calls Tryz.prog 83 #[.agg #[.int .u64 v,sv]] w fun e w'=>e = .returned (.tuple #[.string ⟨[].toArray⟩,kD f1 f2 0])∧Below w.heap.size w w':=by
 have a3:=qE hw
 have HS:=ab hs
 obtain ⟨a,cap,rfl,bL,-⟩:=hs.opened
 clear hs
 have HW:=ab hw
 clear hw
 simp only at a3
 have X:ix ((w.alloc (.cells #[.int .u64 (v:Int),.slice a os.length cap] 51)).alloc (.cells #[.int .i64 0,.int .i64 0,.int .i64 0] 34)) (.slice a os.length cap) os:=HS.out.below (((Below.refl _ w).alloc (af _) _).alloc (by simp) _)
 have a5:=ab X
 clear X
 have B0:Hid (((w.alloc (.cells #[.int .u64 (v:Int),.slice a os.length cap] 51)).alloc (.cells #[.int .i64 0,.int .i64 0,.int .i64 0] 34)).heap[w.heap.size]?=some (.cells #[.int .u64 (v:Int),.slice a os.length cap] 51 (0,0))):=ab (fX _ _ (fR w _))
 have R0:Hid (((w.alloc (.cells #[.int .u64 (v:Int),.slice a os.length cap] 51)).alloc (.cells #[.int .i64 0,.int .i64 0,.int .i64 0] 34)).heap[w.heap.size+1]?=some (.cells #[.int .i64 0,.int .i64 0,.int .i64 0] 34 (0,0))):=ab (by have:=fR (w.alloc (.cells #[.int .u64 (v:Int),.slice a os.length cap] 51)) (.cells #[.int .i64 0,.int .i64 0,.int .i64 0] 34);simpa using this)
 go_enter Tryz.func83,Tryz.ntmps83
 go_wp2_with (at_builtin;refine jN rfl _ (.tmp 10) rfl (w.heap.size+1+1) (.slice none 0 0) [] rfl (OwnS.nil _ _ _) os (by exact a5.out) (by simp;omega) (by simp) ?_;intro v2 w2 d a6 F _;simp only [aO] at d;obtain ⟨sa,aE,rfl⟩:=d.shape;have O:=ab (fQ F (by omega) B0.out);have R2:=ab (fQ F (by omega) R0.out);have c0:w2.cell? ⟨w.heap.size,0,none⟩=some (.int .u64 v):=ae _ _ 0 _ _ _ O.out;have b7:=fO O.out)
 have bH:=ab d
 have G:=d.gP
 have bS:=ab G
 clear G
 have b8:w.heap.size+1+1≤w2.heap.size:=by simpa using a6.size
 have b2:Below w.heap.size w w2:=(((Below.refl _ w).alloc (af _) _).alloc (by simp) _).trans (F.mono (by omega))
 refine (vr v (.slice sa os.length aE) os _ (by exact d.ops) (hg.new b2) av (f1,f2) HW.out).mono ?_
 rintro e w3 ⟨ev,rfl,⟨gf,rfl,ca,Y⟩,y⟩
 have ba:=ab Y
 clear Y
 have B3:=ab (fQ y (fO O.out) O.out)
 have R3:=ab (fQ y (fO R2.out) R2.out)
 have Q:=ab (d.below y)
 have c4:=b2.tn y
 clear d
 go_wp2_with fail
 refine (mQ gf f1 f2 _ (W.new c4) ba.out (by omega) (by omega)).mono ?_
 rintro e l ⟨rfl,s⟩
 have B4:=ab (fQ s (fO B3.out) B3.out)
 have R4:=ab (fQ s (fO R3.out) R3.out)
 have bl:=ab (Q.out.below s)
 have c6:=c4.tn s
 have cb:=s.size
 obtain ⟨-,a0 | ⟨g,off,b0,bn,ce,o,ci,cl,u,Z⟩⟩:=bl.out
 ·exact absurd a0.2 (by omega)
 cases bn
 have I:uW l g off 0 os:=fun j R _=>by
  have co:=jw os
  obtain ⟨B,C,D,S⟩:=nU os j R
  rw [ay (by omega)] at B C D S
  refine ⟨?_,?_,?_,?_⟩
  ·rw [u (j*4) (by omega),B]
  ·rw [aW,u (j*4+1) (by omega),C]
  ·rw [aW,u (j*4+2) (by omega),D]
  ·rw [aW,u (j*4+3) (by omega),S]
 have aa:=ab I
 have ag:=ab (fun i (hi:i<os.length*4)=>(Z i (by omega)).2)
 clear I u Z
 go_wp2
 generalize J:l.alloc (.cells #[.int .i64 f1,.int .i64 f2,.int .i64 0] 34)=w5
 have t5:Below l.heap.size l w5:=by rw [←J];exact (Below.refl _ l).alloc (af _) _
 have F5:Hid (w5.heap[l.heap.size]?=some (.cells #[.int .i64 f1,.int .i64 f2,.int .i64 0] 34 (0,0))):=ab (by rw [←J];exact fR l _)
 clear J
 have c5:=c6.tn t5
 have B5:=ab (fQ t5 (fO B4.out) B4.out)
 have R5:=ab (fQ t5 (fO R4.out) R4.out)
 have h0:lL w5 g off os.length os (.int .i64 0) w5:=⟨0,aM _,rfl,fun j R hk=>by
   obtain ⟨B,C,D,S⟩:=aa.out j R hk
   exact ⟨(t5.cell (p:=⟨g,off+j*4,none⟩) o).trans B,(t5.cell (p:=⟨g,off+j*4+1,none⟩) o).trans C,(t5.cell (p:=⟨g,off+j*4+2,none⟩) o).trans D,(t5.cell (p:=⟨g,off+j*4+3,none⟩) o).trans S⟩,
  fun i hi=>(t5.frozen (p:=⟨g,off+i,none⟩) o).trans (ag.out i hi),aC o t5.size,Ext.refl _ _⟩
 have cp:=t5.size
 have cq:=fO F5.out
 have bv:g≠l.heap.size:=by omega
 clear aa ag
 go_loopw [31] (fun i wr=>lL w5 g off os.length os i wr) (fun i _=>os.length-(intOf i).toNat)
 case atStart=>exact h0
 case round =>
  clear h0
  obtain ⟨k,hk,rfl,q,m,bw,E⟩:=hrel
  have cr:=E.size
  have ak:Below w.heap.size w wr:=c5.trans (E.below (by have:=c5.size;omega) (fun j R e=>by omega))
  have BR:=ab (E.at (fun e=>by omega) B5.out)
  have r:=ab (E.at (fun e=>by omega) R5.out)
  have U:=ab (E.at (fun e=>bv e.symm) F5.out)
  by_cases M:k<os.length
  ·have q1:wr.cell? ⟨w.heap.size,1,none⟩=some (.slice a os.length cap):=ae _ _ 1 _ _ _ BR.out
   have cs:=fO BR.out
   obtain ⟨a',cap',he,bz,al⟩:=(HS.out.below ak).opened
   cases he
   obtain ⟨b,b3,rfl,c0,c1,c2,c3⟩:=al k M
   obtain ⟨d0,d1,d2,d3⟩:=q k M (af _)
   have z0:=m (k*4) (by omega)
   have z1:=m (k*4+1) (by omega)
   have z2:=m (k*4+2) (by omega)
   have z3:=m (k*4+3) (by omega)
   rw [←aW] at z1 z2 z3
   have V:=ab q
   have a1:=ab m
   have b4:(k:Int)<os.length:=by omega
   have ct:=fU c0
   have b5:=Ge os[k].kind os[k].table os[k].key os[k].val
   clear al bz q m
   go_wp2
   go_quiet (fail)
   go_wp2
   exact ⟨lL.step (wr:=wr.drewN nq) M V.out a1.out bw (E.drewN _),by simp [intOf];omega⟩
  ·obtain rfl:k=os.length:=by omega
   have W:¬(os.length:Int)<os.length:=by omega
   have f0:wr.cell? ⟨l.heap.size,0,none⟩=some (.int .i64 f1):=ae _ _ 0 _ _ _ U.out
   have am:wr.cell? ⟨l.heap.size,1,none⟩=some (.int .i64 f2):=ae _ _ 1 _ _ _ U.out
   have ap:wr.cell? ⟨l.heap.size,2,none⟩=some (.int .i64 0):=ae _ _ 2 _ _ _ U.out
   have r0:wr.cell? ⟨w.heap.size+1,0,none⟩=some (.int .i64 0):=ae _ _ 0 _ _ _ r.out
   have r1:wr.cell? ⟨w.heap.size+1,1,none⟩=some (.int .i64 0):=ae _ _ 1 _ _ _ r.out
   have r2:wr.cell? ⟨w.heap.size+1,2,none⟩=some (.int .i64 0):=ae _ _ 2 _ _ _ r.out
   have z0:=aj _ _ 0 _ _ r.out
   have z1:=aj _ _ 1 _ _ r.out
   have z2:=aj _ _ 2 _ _ r.out
   have cu:=fO r.out
   have b6:=fO U.out
   have x:l.heap.size≠w.heap.size+1:=by omega
   clear q m
   go_wp2
   go_region_held3 (fun w'=>Sem.run Tryz.prog (convert 112 9 (.slice none 0 0)) w' = .ok (.string ⟨[].toArray⟩) w'∧w'.cell? ⟨l.heap.size,0,none⟩=some (.int .i64 f1)∧w'.cell? ⟨l.heap.size,1,none⟩=some (.int .i64 f2)∧w'.cell? ⟨l.heap.size,2,none⟩=some (.int .i64 0))
    (first
     | exact ⟨BytesAt.convert (BytesAt.nil _ _ _),f0,am,ap⟩
     | exact ⟨BytesAt.convert (BytesAt.nil _ _ _),iS x f0,iS x am,iS x ap⟩)
    (fail)
   go_wp2
   have B:(((wr.setCell ⟨w.heap.size+1,0,none⟩ (.int .i64 f1)).setCell ⟨w.heap.size+1,1,none⟩ (.int .i64 f2)).setCell ⟨w.heap.size+1,2,none⟩ (.int .i64 0)).cell? ⟨w.heap.size+1,0,none⟩=some (.int .i64 f1):=ae _ _ 0 _ _ _ (heap_setCell _ _ 2 _ (heap_setCell _ _ 1 _ (heap_setCell _ _ 0 _ r.out)))
   have C:(((wr.setCell ⟨w.heap.size+1,0,none⟩ (.int .i64 f1)).setCell ⟨w.heap.size+1,1,none⟩ (.int .i64 f2)).setCell ⟨w.heap.size+1,2,none⟩ (.int .i64 0)).cell? ⟨w.heap.size+1,1,none⟩=some (.int .i64 f2):=ae _ _ 1 _ _ _ (heap_setCell _ _ 2 _ (heap_setCell _ _ 1 _ (heap_setCell _ _ 0 _ r.out)))
   have D:(((wr.setCell ⟨w.heap.size+1,0,none⟩ (.int .i64 f1)).setCell ⟨w.heap.size+1,1,none⟩ (.int .i64 f2)).setCell ⟨w.heap.size+1,2,none⟩ (.int .i64 0)).cell? ⟨w.heap.size+1,2,none⟩=some (.int .i64 0):=ae _ _ 2 _ _ _ (heap_setCell _ _ 2 _ (heap_setCell _ _ 1 _ (heap_setCell _ _ 0 _ r.out)))
   refine aI (v := .tuple #[.string ⟨[].toArray⟩,.agg #[.int .i64 f1,.int .i64 f2,.int .i64 0]]) (by simp [results,Tryz.results83,go_sem,B,C,D]) rfl ⟨rfl,?_⟩
   have N:=((ak.setCell (p:=⟨w.heap.size+1,0,none⟩) (by simp) (.int .i64 f1)).setCell (p:=⟨w.heap.size+1,1,none⟩) (by simp) (.int .i64 f2)).setCell (p:=⟨w.heap.size+1,2,none⟩) (by simp) (.int .i64 0)
   exact ⟨N.os,N.tape,N.output,N.size,N.block⟩
end Go.Proofs.YtkkfmkhbdoeglabGreatDoor
namespace Go.Proofs.YtkkfmkhbdoeglabGreatDoor
open Go.RowKit
theorem tK (v:Nat) (Q:Value) (os:List OpB) (w:World) (hs:ix w Q os) (hg:ShapesVar w) (E:ErrVar w) (N:lF os) (f1 f2:Nat) (hw:gK v os=some (f1,f2)) (R:os=[]) :
  Calls Tryz.prog 83 #[.agg #[.int .u64 v,Q]] w fun e w'=>e = .returned (.tuple #[.string ⟨[].toArray⟩,kD f1 f2 0])∧Below w.heap.size w w':=by
 have S:=qE hw
 have F:os.length=0:=by rw [R];rfl
 have h8:os.length≤100:=by omega
 have U:=ab F
 clear F R
 have HS:=ab hs
 obtain ⟨a,cap,rfl,a3,-⟩:=hs.opened
 clear hs
 have HW:=ab hw
 clear hw
 simp only at S
 have G:ix ((w.alloc (.cells #[.int .u64 (v:Int),.slice a os.length cap] 51)).alloc (.cells #[.int .i64 0,.int .i64 0,.int .i64 0] 34)) (.slice a os.length cap) os:=HS.out.below (((Below.refl _ w).alloc (af _) _).alloc (by simp) _)
 have V:=ab G
 clear G
 have B0:Hid (((w.alloc (.cells #[.int .u64 (v:Int),.slice a os.length cap] 51)).alloc (.cells #[.int .i64 0,.int .i64 0,.int .i64 0] 34)).heap[w.heap.size]?=some (.cells #[.int .u64 (v:Int),.slice a os.length cap] 51 (0,0))):=ab (fX _ _ (fR w _))
 have R0:Hid (((w.alloc (.cells #[.int .u64 (v:Int),.slice a os.length cap] 51)).alloc (.cells #[.int .i64 0,.int .i64 0,.int .i64 0] 34)).heap[w.heap.size+1]?=some (.cells #[.int .i64 0,.int .i64 0,.int .i64 0] 34 (0,0))):=ab (by have:=fR (w.alloc (.cells #[.int .u64 (v:Int),.slice a os.length cap] 51)) (.cells #[.int .i64 0,.int .i64 0,.int .i64 0] 34);simpa using this)
 go_enter Tryz.func83,Tryz.ntmps83
 go_wp2_with (at_builtin;refine jN rfl _ (.tmp 10) rfl (w.heap.size+1+1) (.slice none 0 0) [] rfl (OwnS.nil _ _ _) os (by exact V.out) (by simp;omega) (by simp) ?_;intro v2 w2 b W r _;simp only [aO] at b;obtain ⟨sa,O,rfl⟩:=b.shape;have y:=ab (fQ r (by omega) B0.out);have X:=ab (fQ r (by omega) R0.out);have c0:w2.cell? ⟨w.heap.size,0,none⟩=some (.int .u64 v):=ae _ _ 0 _ _ _ y.out;have bl:=fO y.out)
 have a0:=ab b
 have s:=b.gP
 have a9:=ab s
 clear s
 have bn:w.heap.size+1+1≤w2.heap.size:=by simpa using W.size
 have Y:Below w.heap.size w w2:=(((Below.refl _ w).alloc (af _) _).alloc (by simp) _).trans (r.mono (by omega))
 refine (vr v (.slice sa os.length O) os _ (by exact b.ops) (hg.new Y) N (f1,f2) HW.out).mono ?_
 rintro e w3 ⟨ev,rfl,⟨gf,rfl,bo,I⟩,m⟩
 have Z:=ab I
 clear I
 have B3:=ab (fQ m (fO y.out) y.out)
 have R3:=ab (fQ m (fO X.out) X.out)
 have B:=ab (b.below m)
 have b3:=Y.tn m
 clear b
 go_wp2_with fail
 refine (mQ gf f1 f2 _ (E.new b3) Z.out (by omega) (by omega)).mono ?_
 rintro e d ⟨rfl,o⟩
 have B4:=ab (fQ o (fO B3.out) B3.out)
 have R4:=ab (fQ o (fO R3.out) R3.out)
 have br:=ab (B.out.below o)
 have b4:=b3.tn o
 have bs:=o.size
 go_wp2
 generalize u:d.alloc (.cells #[.int .i64 f1,.int .i64 f2,.int .i64 0] 34)=w5
 have t5:Below d.heap.size d w5:=by rw [←u];exact (Below.refl _ d).alloc (af _) _
 have F5:Hid (w5.heap[d.heap.size]?=some (.cells #[.int .i64 f1,.int .i64 f2,.int .i64 0] 34 (0,0))):=ab (by rw [←u];exact fR d _)
 clear u
 have b5:=b4.tn t5
 have B5:=ab (fQ t5 (fO B4.out) B4.out)
 have R5:=ab (fQ t5 (fO R4.out) R4.out)
 have bt:=t5.size
 have bv:=fO F5.out
 go_loopw [31] (fun i wr=>i = .int .i64 0∧Ext (fun _=>False) w5 wr) (fun _ _=>0)
 case atStart=>exact ⟨rfl,Ext.refl _ _⟩
 case round =>
  obtain ⟨rfl,C⟩:=hrel
  have bw:=C.size
  have aE:Below w.heap.size w wr:=b5.trans (C.below b5.size (fun j hj e=>e))
  have l:=ab (C.at (fun e=>e) R5.out)
  have D:=ab (C.at (fun e=>e) F5.out)
  have E:¬(0:Int)<os.length:=by have:=U.out;omega
  have f0:wr.cell? ⟨d.heap.size,0,none⟩=some (.int .i64 f1):=ae _ _ 0 _ _ _ D.out
  have J:wr.cell? ⟨d.heap.size,1,none⟩=some (.int .i64 f2):=ae _ _ 1 _ _ _ D.out
  have M:wr.cell? ⟨d.heap.size,2,none⟩=some (.int .i64 0):=ae _ _ 2 _ _ _ D.out
  have r0:wr.cell? ⟨w.heap.size+1,0,none⟩=some (.int .i64 0):=ae _ _ 0 _ _ _ l.out
  have r1:wr.cell? ⟨w.heap.size+1,1,none⟩=some (.int .i64 0):=ae _ _ 1 _ _ _ l.out
  have r2:wr.cell? ⟨w.heap.size+1,2,none⟩=some (.int .i64 0):=ae _ _ 2 _ _ _ l.out
  have z0:=aj _ _ 0 _ _ l.out
  have z1:=aj _ _ 1 _ _ l.out
  have z2:=aj _ _ 2 _ _ l.out
  have bx:=fO l.out
  have bc:=fO D.out
  have q:d.heap.size≠w.heap.size+1:=by have:=m.size;omega
  go_wp2
  go_region_held3 (fun w'=>Sem.run Tryz.prog (convert 112 9 (.slice none 0 0)) w' = .ok (.string ⟨[].toArray⟩) w'∧w'.cell? ⟨d.heap.size,0,none⟩=some (.int .i64 f1)∧w'.cell? ⟨d.heap.size,1,none⟩=some (.int .i64 f2)∧w'.cell? ⟨d.heap.size,2,none⟩=some (.int .i64 0))
   (first
    | exact ⟨BytesAt.convert (BytesAt.nil _ _ _),f0,J,M⟩
    | exact ⟨BytesAt.convert (BytesAt.nil _ _ _),iS q f0,iS q J,iS q M⟩)
   (fail)
  go_wp2
  have x0:(((wr.setCell ⟨w.heap.size+1,0,none⟩ (.int .i64 f1)).setCell ⟨w.heap.size+1,1,none⟩ (.int .i64 f2)).setCell ⟨w.heap.size+1,2,none⟩ (.int .i64 0)).cell? ⟨w.heap.size+1,0,none⟩=some (.int .i64 f1):=ae _ _ 0 _ _ _ (heap_setCell _ _ 2 _ (heap_setCell _ _ 1 _ (heap_setCell _ _ 0 _ l.out)))
  have x1:(((wr.setCell ⟨w.heap.size+1,0,none⟩ (.int .i64 f1)).setCell ⟨w.heap.size+1,1,none⟩ (.int .i64 f2)).setCell ⟨w.heap.size+1,2,none⟩ (.int .i64 0)).cell? ⟨w.heap.size+1,1,none⟩=some (.int .i64 f2):=ae _ _ 1 _ _ _ (heap_setCell _ _ 2 _ (heap_setCell _ _ 1 _ (heap_setCell _ _ 0 _ l.out)))
  have x2:(((wr.setCell ⟨w.heap.size+1,0,none⟩ (.int .i64 f1)).setCell ⟨w.heap.size+1,1,none⟩ (.int .i64 f2)).setCell ⟨w.heap.size+1,2,none⟩ (.int .i64 0)).cell? ⟨w.heap.size+1,2,none⟩=some (.int .i64 0):=ae _ _ 2 _ _ _ (heap_setCell _ _ 2 _ (heap_setCell _ _ 1 _ (heap_setCell _ _ 0 _ l.out)))
  refine aI (v := .tuple #[.string ⟨[].toArray⟩,.agg #[.int .i64 f1,.int .i64 f2,.int .i64 0]]) (by simp [results,Tryz.results83,go_sem,x0,x1,x2]) rfl ⟨rfl,?_⟩
  have x:=((aE.setCell (p:=⟨w.heap.size+1,0,none⟩) (by simp) (.int .i64 f1)).setCell (p:=⟨w.heap.size+1,1,none⟩) (by simp) (.int .i64 f2)).setCell (p:=⟨w.heap.size+1,2,none⟩) (by simp) (.int .i64 0)
  exact ⟨x.os,x.tape,x.output,x.size,x.block⟩
theorem uL (v:Nat) (d:Value) (os:List OpB) (w:World) (hs:ix w d os) (j:ShapesVar w) (i:ErrVar w) (b:lF os) (h8:os.length≤2932031007402) :
  Calls Tryz.prog 83 #[.agg #[.int .u64 v,d]] w fun e w'=>e = .returned (match gK v os with | none => .tuple #[.string ⟨(jb v os).toArray⟩,kD 0 0 0] | some f => .tuple #[.string ⟨[].toArray⟩,kD f.1 f.2 0])∧Below w.heap.size w w':=by
 cases hw:gK v os with
 | none=>exact tJ v d os w hs j b hw
 | some f =>
  by_cases l:os=[]
  ·exact tK v d os w hs j i b f.1 f.2 hw l
  ·exact uM v d os w hs j i b f.1 f.2 hw (by have:=List.length_pos_iff.2 l;omega) h8
end Go.Proofs.YtkkfmkhbdoeglabGreatDoor
