/- A part of what is proved here: lemmas and contracts of single functions. No condition but those that each names. -/
import Derived.Test.YtkkfmkhbdoeglaaGreatDoorG00
import Derived.Deep.DeepCutAuto
import Derived.Deep.RegionWith
import Derived.Test.YtkkfmkhbdoeglaaGreatDoorG02
import Derived.Test.YtkkfmkhbdoeglaaGreatDoorG10
import Derived.Test.YtkkfmkhbdoeglaaGreatDoorG13
import Derived.Test.YtkkfmkhbdoeglaaGreatDoorG14
import Derived.Test.YtkkfmkhbdoeglaaGreatDoorG15
import Derived.Test.YtkkfmkhbdoeglaaGreatDoorG16
import Derived.Test.YtkkfmkhbdoeglaaGreatDoorG21
import Derived.Test.YtkkfmkhbdoeglaaGreatDoorG27
import Derived.Test.YtkkfmkhbdoeglaaGreatDoorG28
set_option maxHeartbeats 1000000
set_option maxRecDepth 100000
namespace Go.Proofs.YtkkfmkhbdoeglaaGreatDoor
open Go.RowKit
def ox (w1:World) (g n:Nat) (i:Value) (wr:World):Prop :=
 ∃ k:Nat,k≤n∧i = .int .i64 k∧(∀ i,i<n→(wr.cell? ⟨g,i,none⟩).isSome=true∧wr.frozen? ⟨g,i,none⟩=false)∧g<wr.heap.size∧Ext (fun b=>b=g) w1 wr
theorem ox.step {w1 wr:World} {g n k:Nat} {v:Value} (hk:k<n) (h1:∀ i,i<n→(wr.cell? ⟨g,i,none⟩).isSome=true∧wr.frozen? ⟨g,i,none⟩=false) (h3:g<wr.heap.size) (h4:Ext (fun b=>b=g) w1 wr) :
  ox w1 g n (.int .i64 ((k+1:Nat):Int)) (wr.setCell ⟨g,k,none⟩ v):=by
 refine ⟨k+1,hk,rfl,fun i j => ?_,by rw [size_setCell];exact h3,h4.setCell _ _ (.inl rfl)⟩
 obtain ⟨hs,l⟩:=h1 i j
 refine ⟨?_,by rw [eK];exact l⟩
 by_cases d:i=k
 ·subst d
  obtain ⟨x,m⟩:=cE.1 hs
  rw [World.cell?_setCell_same (h:=m)]
  rfl
 ·rw [cJ (h:=by simp <;> omega)]
  exact hs
end Go.Proofs.YtkkfmkhbdoeglaaGreatDoor
namespace Go.Proofs.YtkkfmkhbdoeglaaGreatDoor
open Go.RowKit
theorem uq (v:Nat) (sv:Value) (os:List OpB) (w:World) (hs:iu w sv os) (hg:ShapesVar w) (W:ErrVar w) (ap:jP os) (f1 f2:Nat) (hw:gB v os=some (f1,f2)) (h1:1≤os.length) (h8:os.length≤2932031007402) :
  Calls Tryz.prog 42 #[.agg #[.int .u64 v,sv]] w fun e w'=>e = .returned (.tuple #[.string ⟨[].toArray⟩,ku f1 f2 0])∧Below w.heap.size w w':=by
 have a2:=qy hw
 have HS:=ae hs
 obtain ⟨a,cap,rfl,bL,-⟩:=hs.opened
 clear hs
 have HW:=ae hw
 clear hw
 simp only at a2
 have X:iu ((w.alloc (.cells #[.int .u64 (v:Int),.slice a os.length cap] 34)).alloc (.cells #[.int .i64 0,.int .i64 0,.int .i64 0] 38)) (.slice a os.length cap) os:=HS.out.below (((Below.refl _ w).alloc (ah _) _).alloc (by simp) _)
 have a4:=ae X
 clear X
 have B0:Hid (((w.alloc (.cells #[.int .u64 (v:Int),.slice a os.length cap] 34)).alloc (.cells #[.int .i64 0,.int .i64 0,.int .i64 0] 38)).heap[w.heap.size]?=some (.cells #[.int .u64 (v:Int),.slice a os.length cap] 34 (0,0))):=ae (fQ _ _ (fL w _))
 have R0:Hid (((w.alloc (.cells #[.int .u64 (v:Int),.slice a os.length cap] 34)).alloc (.cells #[.int .i64 0,.int .i64 0,.int .i64 0] 38)).heap[w.heap.size+1]?=some (.cells #[.int .i64 0,.int .i64 0,.int .i64 0] 38 (0,0))):=ae (by have:=fL (w.alloc (.cells #[.int .u64 (v:Int),.slice a os.length cap] 34)) (.cells #[.int .i64 0,.int .i64 0,.int .i64 0] 38);simpa using this)
 go_enter Tryz.func42,Tryz.ntmps42
 go_wp2_with (at_builtin;refine jC rfl _ (.tmp 10) rfl (w.heap.size+1+1) (.slice none 0 0) [] rfl (OwnS.nil _ _ _) os (by exact a4.out) (by simp;omega) (by simp) ?_;intro v2 w2 d a5 F _;simp only [aQ] at d;obtain ⟨sa,av,rfl⟩:=d.shape;have O:=ae (fK F (by omega) B0.out);have R2:=ae (fK F (by omega) R0.out);have c0:w2.cell? ⟨w.heap.size,0,none⟩=some (.int .u64 v):=af _ _ 0 _ _ _ O.out;have b7:=fI O.out)
 have bH:=ae d
 have G:=d.gZ
 have bS:=ae G
 clear G
 have b8:w.heap.size+1+1≤w2.heap.size:=by simpa using a5.size
 have b2:Below w.heap.size w w2:=(((Below.refl _ w).alloc (ah _) _).alloc (by simp) _).trans (F.mono (by omega))
 refine (uP v (.slice sa os.length av) os _ (by exact d.ops) (hg.new b2) ap (f1,f2) HW.out).mono ?_
 rintro e w3 ⟨ev,rfl,⟨gf,rfl,ca,Y⟩,y⟩
 have a9:=ae Y
 clear Y
 have B3:=ae (fK y (fI O.out) O.out)
 have R3:=ae (fK y (fI R2.out) R2.out)
 have Q:=ae (d.below y)
 have cB:=b2.tn y
 clear d
 go_wp2_with fail
 refine (nT gf f1 f2 _ (W.new cB) a9.out (by omega) (by omega)).mono ?_
 rintro e l ⟨rfl,s⟩
 have B4:=ae (fK s (fI B3.out) B3.out)
 have R4:=ae (fK s (fI R3.out) R3.out)
 have bl:=ae (Q.out.below s)
 have c5:=cB.tn s
 have cb:=s.size
 obtain ⟨-,aE | ⟨g,off,b0,bn,ce,o,cf,ci,u,Z⟩⟩:=bl.out
 ·exact absurd aE.2 (by omega)
 cases bn
 have I:uB l g off 0 os:=fun j R _=>by
  have cl:=jk os
  obtain ⟨B,C,D,S⟩:=nC os j R
  rw [ay (by omega)] at B C D S
  refine ⟨?_,?_,?_,?_⟩
  ·rw [u (j*4) (by omega),B]
  ·rw [aW,u (j*4+1) (by omega),C]
  ·rw [aW,u (j*4+2) (by omega),D]
  ·rw [aW,u (j*4+3) (by omega),S]
 have aa:=ae I
 have ab:=ae (fun i (hi:i<os.length*4)=>(Z i (by omega)).2)
 clear I u Z
 go_wp2
 generalize J:l.alloc (.cells #[.int .i64 f1,.int .i64 f2,.int .i64 0] 38)=w5
 have t5:Below l.heap.size l w5:=by rw [←J];exact (Below.refl _ l).alloc (ah _) _
 have F5:Hid (w5.heap[l.heap.size]?=some (.cells #[.int .i64 f1,.int .i64 f2,.int .i64 0] 38 (0,0))):=ae (by rw [←J];exact fL l _)
 clear J
 have c4:=c5.tn t5
 have B5:=ae (fK t5 (fI B4.out) B4.out)
 have R5:=ae (fK t5 (fI R4.out) R4.out)
 have h0:lG w5 g off os.length os (.int .i64 0) w5:=⟨0,aL _,rfl,fun j R hk=>by
   obtain ⟨B,C,D,S⟩:=aa.out j R hk
   exact ⟨(t5.cell (p:=⟨g,off+j*4,none⟩) o).trans B,(t5.cell (p:=⟨g,off+j*4+1,none⟩) o).trans C,(t5.cell (p:=⟨g,off+j*4+2,none⟩) o).trans D,(t5.cell (p:=⟨g,off+j*4+3,none⟩) o).trans S⟩,
  fun i hi=>(t5.frozen (p:=⟨g,off+i,none⟩) o).trans (ab.out i hi),aC o t5.size,Ext.refl _ _⟩
 have co:=t5.size
 have cp:=fI F5.out
 have bv:g≠l.heap.size:=by omega
 clear aa ab
 go_loopw [31] (fun i wr=>lG w5 g off os.length os i wr) (fun i _=>os.length-(intOf i).toNat)
 case atStart=>exact h0
 case round =>
  clear h0
  obtain ⟨k,hk,rfl,q,m,bw,E⟩:=hrel
  have cq:=E.size
  have ag:Below w.heap.size w wr:=c4.trans (E.below (by have:=c4.size;omega) (fun j R e=>by omega))
  have BR:=ae (E.at (fun e=>by omega) B5.out)
  have r:=ae (E.at (fun e=>by omega) R5.out)
  have U:=ae (E.at (fun e=>bv e.symm) F5.out)
  by_cases M:k<os.length
  ·have q1:wr.cell? ⟨w.heap.size,1,none⟩=some (.slice a os.length cap):=af _ _ 1 _ _ _ BR.out
   have cr:=fI BR.out
   obtain ⟨a',cap',he,bz,ak⟩:=(HS.out.below ag).opened
   cases he
   obtain ⟨b,b3,rfl,c0,c1,c2,c3⟩:=ak k M
   obtain ⟨d0,d1,d2,d3⟩:=q k M (ah _)
   have z0:=m (k*4) (by omega)
   have z1:=m (k*4+1) (by omega)
   have z2:=m (k*4+2) (by omega)
   have z3:=m (k*4+3) (by omega)
   rw [←aW] at z1 z2 z3
   have V:=ae q
   have a0:=ae m
   have b4:(k:Int)<os.length:=by omega
   have cs:=fP c0
   have b5:=Fw os[k].kind os[k].table os[k].key os[k].val
   clear ak bz q m
   go_wp2
   go_quiet (fail)
   go_wp2
   exact ⟨lG.step (wr:=wr.drewN nq) M V.out a0.out bw (E.drewN _),by simp [intOf];omega⟩
  ·obtain rfl:k=os.length:=by omega
   have W:¬(os.length:Int)<os.length:=by omega
   have f0:wr.cell? ⟨l.heap.size,0,none⟩=some (.int .i64 f1):=af _ _ 0 _ _ _ U.out
   have al:wr.cell? ⟨l.heap.size,1,none⟩=some (.int .i64 f2):=af _ _ 1 _ _ _ U.out
   have am:wr.cell? ⟨l.heap.size,2,none⟩=some (.int .i64 0):=af _ _ 2 _ _ _ U.out
   have r0:wr.cell? ⟨w.heap.size+1,0,none⟩=some (.int .i64 0):=af _ _ 0 _ _ _ r.out
   have r1:wr.cell? ⟨w.heap.size+1,1,none⟩=some (.int .i64 0):=af _ _ 1 _ _ _ r.out
   have r2:wr.cell? ⟨w.heap.size+1,2,none⟩=some (.int .i64 0):=af _ _ 2 _ _ _ r.out
   have z0:=ao _ _ 0 _ _ r.out
   have z1:=ao _ _ 1 _ _ r.out
   have z2:=ao _ _ 2 _ _ r.out
   have ct:=fI r.out
   have b6:=fI U.out
   have x:l.heap.size≠w.heap.size+1:=by omega
   clear q m
   go_wp2
   go_region_held3 (fun w'=>Sem.run Tryz.prog (convert 59 9 (.slice none 0 0)) w' = .ok (.string ⟨[].toArray⟩) w'∧w'.cell? ⟨l.heap.size,0,none⟩=some (.int .i64 f1)∧w'.cell? ⟨l.heap.size,1,none⟩=some (.int .i64 f2)∧w'.cell? ⟨l.heap.size,2,none⟩=some (.int .i64 0))
    (first
     | exact ⟨BytesAt.convert (BytesAt.nil _ _ _),f0,al,am⟩
     | exact ⟨BytesAt.convert (BytesAt.nil _ _ _),gL x f0,gL x al,gL x am⟩)
    (fail)
   go_wp2
   have B:(((wr.setCell ⟨w.heap.size+1,0,none⟩ (.int .i64 f1)).setCell ⟨w.heap.size+1,1,none⟩ (.int .i64 f2)).setCell ⟨w.heap.size+1,2,none⟩ (.int .i64 0)).cell? ⟨w.heap.size+1,0,none⟩=some (.int .i64 f1):=af _ _ 0 _ _ _ (heap_setCell _ _ 2 _ (heap_setCell _ _ 1 _ (heap_setCell _ _ 0 _ r.out)))
   have C:(((wr.setCell ⟨w.heap.size+1,0,none⟩ (.int .i64 f1)).setCell ⟨w.heap.size+1,1,none⟩ (.int .i64 f2)).setCell ⟨w.heap.size+1,2,none⟩ (.int .i64 0)).cell? ⟨w.heap.size+1,1,none⟩=some (.int .i64 f2):=af _ _ 1 _ _ _ (heap_setCell _ _ 2 _ (heap_setCell _ _ 1 _ (heap_setCell _ _ 0 _ r.out)))
   have D:(((wr.setCell ⟨w.heap.size+1,0,none⟩ (.int .i64 f1)).setCell ⟨w.heap.size+1,1,none⟩ (.int .i64 f2)).setCell ⟨w.heap.size+1,2,none⟩ (.int .i64 0)).cell? ⟨w.heap.size+1,2,none⟩=some (.int .i64 0):=af _ _ 2 _ _ _ (heap_setCell _ _ 2 _ (heap_setCell _ _ 1 _ (heap_setCell _ _ 0 _ r.out)))
   refine aK (v := .tuple #[.string ⟨[].toArray⟩,.agg #[.int .i64 f1,.int .i64 f2,.int .i64 0]]) (by simp [results,Tryz.results42,go_sem,B,C,D]) rfl ⟨rfl,?_⟩
   have N:=((ag.setCell (p:=⟨w.heap.size+1,0,none⟩) (by simp) (.int .i64 f1)).setCell (p:=⟨w.heap.size+1,1,none⟩) (by simp) (.int .i64 f2)).setCell (p:=⟨w.heap.size+1,2,none⟩) (by simp) (.int .i64 0)
   exact ⟨N.os,N.tape,N.output,N.size,N.block⟩
end Go.Proofs.YtkkfmkhbdoeglaaGreatDoor
namespace Go.Proofs.YtkkfmkhbdoeglaaGreatDoor
open Go.RowKit
theorem td (v:Nat) (Q:Value) (os:List OpB) (w:World) (hs:iu w Q os) (hg:ShapesVar w) (E:ErrVar w) (N:jP os) (f1 f2:Nat) (hw:gB v os=some (f1,f2)) (R:os=[]) :
  Calls Tryz.prog 42 #[.agg #[.int .u64 v,Q]] w fun e w'=>e = .returned (.tuple #[.string ⟨[].toArray⟩,ku f1 f2 0])∧Below w.heap.size w w':=by
 have S:=qy hw
 have F:os.length=0:=by rw [R];rfl
 have h8:os.length≤100:=by omega
 have U:=ae F
 clear F R
 have HS:=ae hs
 obtain ⟨a,cap,rfl,a2,-⟩:=hs.opened
 clear hs
 have HW:=ae hw
 clear hw
 simp only at S
 have G:iu ((w.alloc (.cells #[.int .u64 (v:Int),.slice a os.length cap] 34)).alloc (.cells #[.int .i64 0,.int .i64 0,.int .i64 0] 38)) (.slice a os.length cap) os:=HS.out.below (((Below.refl _ w).alloc (ah _) _).alloc (by simp) _)
 have V:=ae G
 clear G
 have B0:Hid (((w.alloc (.cells #[.int .u64 (v:Int),.slice a os.length cap] 34)).alloc (.cells #[.int .i64 0,.int .i64 0,.int .i64 0] 38)).heap[w.heap.size]?=some (.cells #[.int .u64 (v:Int),.slice a os.length cap] 34 (0,0))):=ae (fQ _ _ (fL w _))
 have R0:Hid (((w.alloc (.cells #[.int .u64 (v:Int),.slice a os.length cap] 34)).alloc (.cells #[.int .i64 0,.int .i64 0,.int .i64 0] 38)).heap[w.heap.size+1]?=some (.cells #[.int .i64 0,.int .i64 0,.int .i64 0] 38 (0,0))):=ae (by have:=fL (w.alloc (.cells #[.int .u64 (v:Int),.slice a os.length cap] 34)) (.cells #[.int .i64 0,.int .i64 0,.int .i64 0] 38);simpa using this)
 go_enter Tryz.func42,Tryz.ntmps42
 go_wp2_with (at_builtin;refine jC rfl _ (.tmp 10) rfl (w.heap.size+1+1) (.slice none 0 0) [] rfl (OwnS.nil _ _ _) os (by exact V.out) (by simp;omega) (by simp) ?_;intro v2 w2 b W r _;simp only [aQ] at b;obtain ⟨sa,O,rfl⟩:=b.shape;have y:=ae (fK r (by omega) B0.out);have X:=ae (fK r (by omega) R0.out);have c0:w2.cell? ⟨w.heap.size,0,none⟩=some (.int .u64 v):=af _ _ 0 _ _ _ y.out;have bl:=fI y.out)
 have aE:=ae b
 have s:=b.gZ
 have a7:=ae s
 clear s
 have bn:w.heap.size+1+1≤w2.heap.size:=by simpa using W.size
 have Y:Below w.heap.size w w2:=(((Below.refl _ w).alloc (ah _) _).alloc (by simp) _).trans (r.mono (by omega))
 refine (uP v (.slice sa os.length O) os _ (by exact b.ops) (hg.new Y) N (f1,f2) HW.out).mono ?_
 rintro e w3 ⟨ev,rfl,⟨gf,rfl,bo,I⟩,m⟩
 have Z:=ae I
 clear I
 have B3:=ae (fK m (fI y.out) y.out)
 have R3:=ae (fK m (fI X.out) X.out)
 have B:=ae (b.below m)
 have b3:=Y.tn m
 clear b
 go_wp2_with fail
 refine (nT gf f1 f2 _ (E.new b3) Z.out (by omega) (by omega)).mono ?_
 rintro e d ⟨rfl,o⟩
 have B4:=ae (fK o (fI B3.out) B3.out)
 have R4:=ae (fK o (fI R3.out) R3.out)
 have br:=ae (B.out.below o)
 have b4:=b3.tn o
 have bs:=o.size
 go_wp2
 generalize u:d.alloc (.cells #[.int .i64 f1,.int .i64 f2,.int .i64 0] 38)=w5
 have t5:Below d.heap.size d w5:=by rw [←u];exact (Below.refl _ d).alloc (ah _) _
 have F5:Hid (w5.heap[d.heap.size]?=some (.cells #[.int .i64 f1,.int .i64 f2,.int .i64 0] 38 (0,0))):=ae (by rw [←u];exact fL d _)
 clear u
 have b5:=b4.tn t5
 have B5:=ae (fK t5 (fI B4.out) B4.out)
 have R5:=ae (fK t5 (fI R4.out) R4.out)
 have bt:=t5.size
 have bv:=fI F5.out
 go_loopw [31] (fun i wr=>i = .int .i64 0∧Ext (fun _=>False) w5 wr) (fun _ _=>0)
 case atStart=>exact ⟨rfl,Ext.refl _ _⟩
 case round =>
  obtain ⟨rfl,C⟩:=hrel
  have bw:=C.size
  have av:Below w.heap.size w wr:=b5.trans (C.below b5.size (fun j hj e=>e))
  have l:=ae (C.at (fun e=>e) R5.out)
  have D:=ae (C.at (fun e=>e) F5.out)
  have E:¬(0:Int)<os.length:=by have:=U.out;omega
  have f0:wr.cell? ⟨d.heap.size,0,none⟩=some (.int .i64 f1):=af _ _ 0 _ _ _ D.out
  have J:wr.cell? ⟨d.heap.size,1,none⟩=some (.int .i64 f2):=af _ _ 1 _ _ _ D.out
  have M:wr.cell? ⟨d.heap.size,2,none⟩=some (.int .i64 0):=af _ _ 2 _ _ _ D.out
  have r0:wr.cell? ⟨w.heap.size+1,0,none⟩=some (.int .i64 0):=af _ _ 0 _ _ _ l.out
  have r1:wr.cell? ⟨w.heap.size+1,1,none⟩=some (.int .i64 0):=af _ _ 1 _ _ _ l.out
  have r2:wr.cell? ⟨w.heap.size+1,2,none⟩=some (.int .i64 0):=af _ _ 2 _ _ _ l.out
  have z0:=ao _ _ 0 _ _ l.out
  have z1:=ao _ _ 1 _ _ l.out
  have z2:=ao _ _ 2 _ _ l.out
  have bx:=fI l.out
  have bb:=fI D.out
  have q:d.heap.size≠w.heap.size+1:=by have:=m.size;omega
  go_wp2
  go_region_held3 (fun w'=>Sem.run Tryz.prog (convert 59 9 (.slice none 0 0)) w' = .ok (.string ⟨[].toArray⟩) w'∧w'.cell? ⟨d.heap.size,0,none⟩=some (.int .i64 f1)∧w'.cell? ⟨d.heap.size,1,none⟩=some (.int .i64 f2)∧w'.cell? ⟨d.heap.size,2,none⟩=some (.int .i64 0))
   (first
    | exact ⟨BytesAt.convert (BytesAt.nil _ _ _),f0,J,M⟩
    | exact ⟨BytesAt.convert (BytesAt.nil _ _ _),gL q f0,gL q J,gL q M⟩)
   (fail)
  go_wp2
  have x0:(((wr.setCell ⟨w.heap.size+1,0,none⟩ (.int .i64 f1)).setCell ⟨w.heap.size+1,1,none⟩ (.int .i64 f2)).setCell ⟨w.heap.size+1,2,none⟩ (.int .i64 0)).cell? ⟨w.heap.size+1,0,none⟩=some (.int .i64 f1):=af _ _ 0 _ _ _ (heap_setCell _ _ 2 _ (heap_setCell _ _ 1 _ (heap_setCell _ _ 0 _ l.out)))
  have x1:(((wr.setCell ⟨w.heap.size+1,0,none⟩ (.int .i64 f1)).setCell ⟨w.heap.size+1,1,none⟩ (.int .i64 f2)).setCell ⟨w.heap.size+1,2,none⟩ (.int .i64 0)).cell? ⟨w.heap.size+1,1,none⟩=some (.int .i64 f2):=af _ _ 1 _ _ _ (heap_setCell _ _ 2 _ (heap_setCell _ _ 1 _ (heap_setCell _ _ 0 _ l.out)))
  have x2:(((wr.setCell ⟨w.heap.size+1,0,none⟩ (.int .i64 f1)).setCell ⟨w.heap.size+1,1,none⟩ (.int .i64 f2)).setCell ⟨w.heap.size+1,2,none⟩ (.int .i64 0)).cell? ⟨w.heap.size+1,2,none⟩=some (.int .i64 0):=af _ _ 2 _ _ _ (heap_setCell _ _ 2 _ (heap_setCell _ _ 1 _ (heap_setCell _ _ 0 _ l.out)))
  refine aK (v := .tuple #[.string ⟨[].toArray⟩,.agg #[.int .i64 f1,.int .i64 f2,.int .i64 0]]) (by simp [results,Tryz.results42,go_sem,x0,x1,x2]) rfl ⟨rfl,?_⟩
  have x:=((av.setCell (p:=⟨w.heap.size+1,0,none⟩) (by simp) (.int .i64 f1)).setCell (p:=⟨w.heap.size+1,1,none⟩) (by simp) (.int .i64 f2)).setCell (p:=⟨w.heap.size+1,2,none⟩) (by simp) (.int .i64 0)
  exact ⟨x.os,x.tape,x.output,x.size,x.block⟩
theorem uo (v:Nat) (d:Value) (os:List OpB) (w:World) (hs:iu w d os) (j:ShapesVar w) (i:ErrVar w) (b:jP os) (h8:os.length≤2932031007402) :
  Calls Tryz.prog 42 #[.agg #[.int .u64 v,d]] w fun e w'=>e = .returned (match gB v os with | none => .tuple #[.string ⟨(jo v os).toArray⟩,ku 0 0 0] | some f => .tuple #[.string ⟨[].toArray⟩,ku f.1 f.2 0])∧Below w.heap.size w w':=by
 cases hw:gB v os with
 | none=>exact s9 v d os w hs j b hw
 | some f =>
  by_cases l:os=[]
  ·exact td v d os w hs j i b f.1 f.2 hw l
  ·exact uq v d os w hs j i b f.1 f.2 hw (by have:=List.length_pos_iff.2 l;omega) h8
end Go.Proofs.YtkkfmkhbdoeglaaGreatDoor
namespace Go.Proofs.YtkkfmkhbdoeglaaGreatDoor
open Go.RowKit
theorem iu.take {w:World} {a:Option Addr} {n cap:Nat} {os:List OpB} (h:iu w (.slice a n cap) os) (k:Nat) (hk:k≤os.length):iu w (.slice a k cap) (os.take k):=by
 obtain ⟨hl,r,cap',he,hc,q⟩:=h
 cases he
 have m:(os.take k).length=k:=by rw [aA];omega
 have j:gd os=gd (os.take k)++gd (os.drop k):=by rw [←nB,cy]
 refine ⟨jk _,a,cap,by rw [m],by omega,fun i o => ?_⟩
 have l:i<(gd os).length:=by rw [j,ar];omega
 obtain ⟨b,off,rfl,d⟩:=q i l
 refine ⟨b,off,rfl,?_⟩
 rw [d]
 congr 1
 have:(gd os)[i]?=(gd (os.take k))[i]?:=by rw [j,cI o]
 rw [ay l,ay o] at this
 exact Option.some.inj this
end Go.Proofs.YtkkfmkhbdoeglaaGreatDoor
namespace Go.Proofs.YtkkfmkhbdoeglaaGreatDoor
open Go.RowKit
theorem mx {v:Nat} {os:List OpB} (h:gB v os=none):9≤(jo v os).length∧(jo v os).length≤200:=by
 have i:os.length≤8∧fV 0 [] os=none:=by
  unfold gB at h
  split at h
  ·cases h
  ·split at h
   ·cases h
   ·rename_i h1 h2;exact ⟨by omega,h⟩
 have b:∀ o∈os,(gN o).length≤12:=by
  intro o j
  obtain ⟨k,hk,rfl⟩:=cH j
  obtain ⟨l,d⟩:=ja os 0 [] i.2 k hk
  exact (pd d).1
 have:=zX v os os.length b
 rw [xB] at this
 refine ⟨by simp [jo,j4];omega,by omega⟩
end Go.Proofs.YtkkfmkhbdoeglaaGreatDoor
namespace Go.Proofs.YtkkfmkhbdoeglaaGreatDoor
def DpS.Same (d d':DpS):Prop:=d'.S=d.S∧d'.log=d.log∧d'.room=d.room
theorem DpS.Same.refl (d:DpS):d.Same d:=⟨rfl,rfl,rfl⟩
theorem DpS.Same.trans {a b c:DpS} (h:a.Same b) (k:b.Same c):a.Same c:=⟨k.1.trans h.1,k.2.1.trans h.2.1,k.2.2.trans h.2.2⟩
theorem mi (d:DpS):d.Same d.stop:=⟨rfl,rfl,rfl⟩
theorem ns {d:DpS} (h:d.dead=true):d.stop.dead=true:=by
 unfold DpS.stop
 simp [h]
structure IG (ps:List (List UInt8)) (at':Nat) (H H1:fJ) (r:Option Nat):Prop where
 held:H1.held=H.held
 dp:H.dp.Same H1.dp
 late:∃ m,m≤ps.length∧H1.late=H.late++(ps.take m).zipIdx at'∧(r=none→H1.dp.dead=false→m=ps.length∧H1.seen=applySel (fun _=>true) 0 (ps.zipIdx at') H.seen)
 gone:H.dp.dead=true→H1.dp.dead=true∧H1.late=H.late
 err:∀ f,r=some f→1≤f∧0≤H.fail
 fail:0≤H1.fail→0≤H.fail
 len:H1.seen.length=H.seen.length
theorem jZ {H:fJ} (h:0≤H.asked.fail):0≤H.fail:=by
 unfold fJ.asked at h
 simp only at h
 split at h <;> omega
theorem sQ {H:fJ} (h:H.gW=true):0≤H.fail:=by
 unfold fJ.gW at h
 have:=dV h
 omega
theorem Eo {α:Type} (l:List (α×Nat)) (d:List α) (k j:Nat):applySel (fun _=>true) k l d=applySel (fun _=>true) j l d:=by
 induction l generalizing d k j with
 | nil=>rfl
 | cons x l ih =>
  obtain ⟨p,n⟩:=x
  unfold applySel
  exact ih _ _ _
theorem qx:∀ (ps:List (List UInt8)) (H:fJ) (at':Nat),IG ps at' H (gD ps H at').1 (gD ps H at').2
 | [],H,at'=>⟨rfl,.refl _,⟨0,ah _,by simp [gD],fun _ _=>⟨rfl,rfl⟩⟩,fun h=>⟨h,rfl⟩,fun f h=>(by cases h),id,rfl⟩
 | s::ps,H,at'=>by
  unfold gD
  rcases cD H.gW with j | j
  ·have e:H.write at' s=(H.asked,some (at'+2)):=by unfold fJ.write;rw [aF j]
   rw [e]
   exact ⟨rfl,.refl _,⟨0,aL _,by simp [fJ.asked],fun h=>by cases h⟩,fun h=>⟨h,rfl⟩,fun f h=>(by cases h;exact ⟨by omega,sQ j⟩),jZ,rfl⟩
  ·obtain ⟨d,b⟩:∃ d:fJ,d = {H.asked with writes:=H.writes+1,seen:=H.seen.set at' s,dp:=H.dp.stop,late:=if H.dp.stop.dead then H.late else H.late++[(s,at')]} := ⟨_,rfl⟩
   have e:H.write at' s=(d,none):=by unfold fJ.write;rw [aw (by rw [j];decide),b]
   rw [e]
   simp only
   obtain ⟨h1,h2,⟨m,hm,hl,hd⟩,h4,h5,h6,h7⟩:=qx ps d (at'+1)
   have a1:d.held=H.held:=by rw [b];rfl
   have a2:d.dp=H.dp.stop:=by rw [b]
   have a3:d.seen=H.seen.set at' s:=by rw [b]
   have a4:d.fail=H.asked.fail:=by rw [b]
   have a5:d.late=if H.dp.stop.dead then H.late else H.late++[(s,at')]:=by rw [b]
   rcases cD H.dp.stop.dead with hs | hs
   ·obtain ⟨g1,g2⟩:=h4 (by rw [a2];exact hs)
    rw [hs,aF rfl] at a5
    refine ⟨h1.trans a1,(mi _).trans (a2▸h2),⟨0,aL _,by rw [g2,a5];simp,fun i hdd => ?_⟩,fun _=>⟨g1,g2.trans a5⟩,fun f i=>⟨(h5 f i).1,jZ (a4▸(h5 f i).2)⟩,fun h=>jZ (a4▸h6 h),by rw [h7,a3,b9]⟩
    rw [hdd] at g1
    cases g1
   ·rw [hs,aw (by decide)] at a5
    refine ⟨h1.trans a1,(mi _).trans (a2▸h2),⟨m+1,by rw [au];omega,by rw [hl,a5,bA,List.zipIdx_cons,bg];rfl,fun i hdd => ?_⟩,fun h => ?_,fun f i=>⟨(h5 f i).1,jZ (a4▸(h5 f i).2)⟩,fun h=>jZ (a4▸h6 h),by rw [h7,a3,b9]⟩
    ·obtain ⟨l,o⟩:=hd i hdd
     refine ⟨by rw [l];rfl,?_⟩
     rw [o,a3,List.zipIdx_cons]
     exact Eo _ _ 0 1
    ·rw [ns h] at hs
     cases hs
structure DiskUp (n:Nat) (H:fJ) (g:LogS) (v:Nat) (T:List E):Prop where
 seen:H.seen=H.held
 late:H.late=[]
 len:H.held.length=n
 stamps:stampsLe H.held g.stamp
 inv:DiskInv decSB decDB foldS [] (H.held.map parseSec) (placeOf n) g.slot v T g.next
 next:g.next≤n
 dead:H.dp.dead=false
structure lF (n:Nat) (d:List (List UInt8)) (s v:Nat) (T:List E):Prop where
 len:d.length=n
 stamps:stampsLe d s
 inv:∃ slot next,next≤n∧DiskInv decSB decDB foldS [] (d.map parseSec) (placeOf n) slot v T next
def May (n:Nat) (H:fJ) (s:Nat) (C:Nat→List E→Prop):Prop:=∀ b,∃ v T,C v T∧lF n (applySel b 0 H.late H.held) s v T
theorem stampsLe.mono {d:List (List UInt8)} {s t:Nat} (h:stampsLe d s) (hs:s≤t):stampsLe d t:=fun b i=>aI (h b i) hs
theorem lF.mono {n:Nat} {d:List (List UInt8)} {s t v:Nat} {T:List E} (h:lF n d s v T) (hs:s≤t):lF n d t v T:=⟨h.len,h.stamps.mono hs,h.inv⟩
theorem May.mono {n:Nat} {H:fJ} {s t:Nat} {C D:Nat→List E→Prop} (h:May n H s C) (hs:s≤t) (d:∀ v T,C v T→D v T):May n H t D:=fun b=>by
 obtain ⟨v,T,h1,h2⟩:=h b
 exact ⟨v,T,d v T h1,h2.mono hs⟩
theorem DiskUp.image {n:Nat} {H:fJ} {g:LogS} {v:Nat} {T:List E} (h:DiskUp n H g v T):lF n H.held g.stamp v T:=⟨h.len,h.stamps,_,_,h.next,h.inv⟩
theorem DiskUp.may {n:Nat} {H:fJ} {g:LogS} {v:Nat} {T:List E} (h:DiskUp n H g v T):May n H g.stamp (fun w U=>w=v∧U=T):=fun b=>⟨v,T,⟨rfl,rfl⟩,by rw [h.late];exact h.image⟩
structure ET (ps:List (List UInt8)) (at':Nat) (H H1:fJ) (r:Option Nat):Prop where
 dp:H.dp.Same H1.dp
 good:r=none→H1.dp.dead=false→H1.held=applySel (fun _=>true) 0 (ps.zipIdx at') H.held∧H1.seen=H1.held∧H1.late=[]
 bad:(∃ f,r=some f)∨H1.dp.dead=true→H1.held=H.held∧∃ m,H1.late=(ps.take m).zipIdx at'
 err:∀ f,r=some f→1≤f∧0≤H.fail
 fail:0≤H1.fail→0≤H.fail
 len:H1.seen.length=H.seen.length
theorem xc {H:fJ} (g:LogS) (at':Nat) (data:List UInt8) (h1:H.seen=H.held) (h2:H.late=[]):ET (gj (g.stamp+1) data) at' H (fO H g at' data).1 (fO H g at' data).2:=by
 unfold fO
 obtain ⟨w1,w2,⟨m,hm,hl,hd⟩,o,w5,b,d⟩:=qx (gj (g.stamp+1) data) H at'
 generalize gD (gj (g.stamp+1) data) H at'=q at *
 obtain ⟨H1,r⟩:=q
 rw [h2,aQ] at hl
 cases r with
 | some f=>exact ⟨w2,fun h=>(by cases h),fun _=>⟨w1,m,hl⟩,w5,b,d⟩
 | none =>
  show ET _ _ _ H1.flush.1 H1.flush.2
  unfold fJ.flush
  rcases cD H1.gW with i | i
  ·rw [aF i]
   exact ⟨w2,fun h=>(by cases h),fun _=>⟨w1,m,hl⟩,fun f h=>(by cases h;exact ⟨ah _,b (sQ i)⟩),fun h=>b (jZ h),d⟩
  ·rw [aw (by rw [i];decide)]
   rcases cD H1.dp.stop.dead with hs | hs
   ·rw [aF hs]
    refine ⟨w2.trans (mi _),fun _ h => ?_,fun _=>⟨w1,m,hl⟩,fun f h=>(by cases h),fun h=>b (jZ h),d⟩
    rw [show ({H1.asked with dp:=H1.dp.stop} : fJ).dp.dead=H1.dp.stop.dead from rfl,hs] at h
    cases h
   ·rw [aw (by rw [hs];decide)]
    have hdd:H1.dp.dead=false:=by
     rcases cD H1.dp.dead with h | h
     ·rw [ns h] at hs;cases hs
     ·exact h
    obtain ⟨j,l⟩:=hd rfl hdd
    rw [j,be] at hl
    refine ⟨w2.trans (mi _),fun _ _=>⟨?_,?_,rfl⟩,fun h => ?_,fun f h=>(by cases h),fun h=>b (jZ h),d⟩
    ·show applySel (fun _=>true) 0 H1.late H1.held=_
     rw [hl,w1]
    ·show H1.seen=applySel (fun _=>true) 0 H1.late H1.held
     rw [hl,w1,l,h1]
    ·rcases h with ⟨f,h⟩ | h
     ·cases h
     ·rw [show ({H1.asked with dp:=H1.dp.stop,held:=applySel (fun _=>true) 0 H1.late H1.held,late:=[]} : fJ).dp.dead=H1.dp.stop.dead from rfl,hs] at h
      cases h
theorem vt {l:List UInt8} {v:Nat} {os:List OpB} (h:pO l = .inl (v,os)):decDB l=some (v,os):=by unfold decDB;rw [h]
theorem BC {l:List UInt8} {v:Nat} {S:List E} (h:iD l = .inl (v,S)):decSB l=some (v,S):=by unfold decSB;rw [h]
structure Step (j n:Nat) (H:fJ) (g:LogS) (v:Nat) (T:List E) (v':Nat) (T':List E) (H1:fJ) (g1:LogS) (r:Option Nat):Prop where
 dp:H.dp.Same H1.dp
 good:r=none→H1.dp.dead=false→DiskUp n H1 g1 v' T'
 may:May n H1 (g.stamp+j) (fun w U=>(w=v∧U=T)∨(w=v'∧U=T'))
 stamp:g1.stamp≤g.stamp+j
 err:∀ f,r=some f→1≤f∧0≤H.fail
 fail:0≤H1.fail→0≤H.fail
theorem mapped {d:List (List UInt8)} {ps:List (List UInt8)} {at' m:Nat} (b:Nat→Bool):(applySel b 0 ((ps.take m).zipIdx at') d).map parseSec=applySel b 0 (((ps.map parseSec).take m).zipIdx at') (d.map parseSec):=by
 rw [rQ]
 congr 1
 rw [←List.map_take,List.zipIdx_map]
 rfl
theorem wh {s:Nat} {data:List UInt8} (hs:s<18446744073709551616) (b:0<data.length) (d:partsOf data.length<256):oy s ((gj s data).map parseSec) data∧((gj s data).map parseSec).length=partsOf data.length :=
 ⟨CE hs b d,by rw [aH,iU]⟩
theorem tN {n:Nat} {H:fJ} {g:LogS} {v:Nat} {T:List E} {data:List UInt8} {os:List OpB} (h:DiskUp n H g v T) (hs:g.stamp+1<18446744073709551616) (j:0<data.length) (l:partsOf data.length<256) (m:g.next+partsOf data.length≤n) (hd:pO data = .inl (v+1,os))
  {d':List (List UInt8)} (b:stampsLe d' (g.stamp+1)) (hlen:d'.length=n) (hm:mP (H.held.map parseSec) (d'.map parseSec) g.next ((gj (g.stamp+1) data).map parseSec)) :
  (lu (d'.map parseSec) g.next ((gj (g.stamp+1) data).map parseSec)→DiskInv decSB decDB foldS [] (d'.map parseSec) (placeOf n) g.slot (v+1) (foldS T os) (g.next+partsOf data.length))∧(lF n d' (g.stamp+1) v T∨lF n d' (g.stamp+1) (v+1) (foldS T os)):=by
 obtain ⟨o,q⟩:=wh hs j l
 obtain ⟨d,r⟩:=h.inv.delta hm o h.stamps.fresh (by omega) (vt hd)
 rw [q] at d
 refine ⟨d,?_⟩
 by_cases i:lu (d'.map parseSec) g.next ((gj (g.stamp+1) data).map parseSec)
 ·exact .inr ⟨hlen,b,_,_,m,d i⟩
 ·exact .inl ⟨hlen,b,_,_,h.next,r i⟩
theorem tP {n:Nat} {H:fJ} {g:LogS} {v v':Nat} {T T':List E} {data:List UInt8} (h:DiskUp n H g v T) (hs:g.stamp+1<18446744073709551616) (m:0<data.length) (o:partsOf data.length<256) (d:partsOf data.length≤placeOf n) (i:2*placeOf n≤n) (hd:iD data = .inl (v',T'))
  {d':List (List UInt8)} (b:stampsLe d' (g.stamp+1)) (hlen:d'.length=n) (hm:mP (H.held.map parseSec) (d'.map parseSec) ((1-g.slot)*placeOf n) ((gj (g.stamp+1) data).map parseSec)) :
  (lu (d'.map parseSec) ((1-g.slot)*placeOf n) ((gj (g.stamp+1) data).map parseSec)→DiskInv decSB decDB foldS [] (d'.map parseSec) (placeOf n) (1-g.slot) v' T' (2*placeOf n))∧(lF n d' (g.stamp+1) v T∨lF n d' (g.stamp+1) v' T'):=by
 obtain ⟨q,r⟩:=wh hs m o
 obtain ⟨j,s⟩:=h.inv.state hm q (by rw [r];exact d) (by rw [aH,h.len];exact i) h.stamps.fresh (by omega) (BC hd)
 refine ⟨j,?_⟩
 by_cases l:lu (d'.map parseSec) ((1-g.slot)*placeOf n) ((gj (g.stamp+1) data).map parseSec)
 ·exact .inr ⟨hlen,b,_,_,i,j l⟩
 ·exact .inl ⟨hlen,b,_,_,h.next,s l⟩
theorem wJ {n:Nat} {H:fJ} {g:LogS} {v v':Nat} {T T':List E} {data:List UInt8} {at':Nat} (h:DiskUp n H g v T) (hs:g.stamp+1<18446744073709551616) (x:partsOf data.length<256) (j:at'+partsOf data.length≤n)
  (l:∀ d':List (List UInt8),stampsLe d' (g.stamp+1)→d'.length=n→mP (H.held.map parseSec) (d'.map parseSec) at' ((gj (g.stamp+1) data).map parseSec)→(lF n d' (g.stamp+1) v T∨lF n d' (g.stamp+1) v' T')) :
  H.dp.Same (fO H g at' data).1.dp∧((fO H g at' data).2=none→(fO H g at' data).1.dp.dead=false→(fO H g at' data).1.held=applySel (fun _=>true) 0 ((gj (g.stamp+1) data).zipIdx at') H.held∧(fO H g at' data).1.seen=(fO H g at' data).1.held∧(fO H g at' data).1.late=[]∧(fO H g at' data).1.held.length=n∧stampsLe (fO H g at' data).1.held (g.stamp+1)∧
    mP (H.held.map parseSec) ((fO H g at' data).1.held.map parseSec) at' ((gj (g.stamp+1) data).map parseSec)∧lu ((fO H g at' data).1.held.map parseSec) at' ((gj (g.stamp+1) data).map parseSec))∧
   (∀ b,lF n (applySel b 0 (fO H g at' data).1.late (fO H g at' data).1.held) (g.stamp+1) v T∨lF n (applySel b 0 (fO H g at' data).1.late (fO H g at' data).1.held) (g.stamp+1) v' T')∧
   (∀ f,(fO H g at' data).2=some f→1≤f∧0≤H.fail)∧(0≤(fO H g at' data).1.fail→0≤H.fail)∧(fO H g at' data).1.seen.length=n:=by
 obtain ⟨s1,s2,y,B,C,D⟩:=xc g at' data h.seen h.late
 generalize fO H g at' data=q at *
 obtain ⟨H1,r⟩:=q
 simp only at *
 have o:(gj (g.stamp+1) data).length=partsOf data.length:=iU _ _
 have i:∀ b m,stampsLe (applySel b 0 (((gj (g.stamp+1) data).take m).zipIdx at') H.held) (g.stamp+1)∧(applySel b 0 (((gj (g.stamp+1) data).take m).zipIdx at') H.held).length=n∧mP (H.held.map parseSec) ((applySel b 0 (((gj (g.stamp+1) data).take m).zipIdx at') H.held).map parseSec) at' ((gj (g.stamp+1) data).map parseSec):=fun b m=>by
  refine ⟨h.stamps.apply hs x b m at' (by rw [h.len];exact j),by rw [jW,h.len],?_⟩
  rw [mapped]
  exact Ar b (by rw [aH,aH,o,h.len];exact j)
 refine ⟨s1,fun s hdd => ?_,fun b => ?_,B,C,?_⟩
 ·obtain ⟨g1,g2,g3⟩:=s2 s hdd
  have:=i (fun _=>true) (gj (g.stamp+1) data).length
  rw [be,←g1] at this
  refine ⟨g1,g2,g3,this.2.1,this.1,this.2.2,?_⟩
  have e:=mapped (d:=H.held) (ps:=gj (g.stamp+1) data) (at':=at') (m:=(gj (g.stamp+1) data).length) (fun _=>true)
  rw [be,←g1] at e
  rw [e,show (gj (g.stamp+1) data).length=((gj (g.stamp+1) data).map parseSec).length by rw [aH],be]
  exact Ca (by rw [aH,aH,o,h.len];exact j)
 ·by_cases u:(∃ f,r=some f)∨H1.dp.dead=true
  ·obtain ⟨g1,m,g2⟩:=y u
   rw [g1,g2]
   obtain ⟨m1,m2,m3⟩:=i b m
   exact l _ m1 m2 m3
  ·have s:r=none:=by
    cases r with
    | none=>rfl
    | some f=>exact absurd (.inl ⟨f,rfl⟩) u
   have hdd:H1.dp.dead=false:=by
    rcases cD H1.dp.dead with e | e
    ·exact absurd (.inr e) u
    ·exact e
   obtain ⟨g1,g2,g3⟩:=s2 s hdd
   rw [g3]
   have:=i (fun _=>true) (gj (g.stamp+1) data).length
   rw [be,←g1] at this
   exact l _ this.1 this.2.1 this.2.2
 ·rw [D,h.seen,h.len]
theorem xP {n:Nat} {H:fJ} {g:LogS} {v:Nat} {T:List E} {data:List UInt8} {os:List OpB} (h:DiskUp n H g v T) (hs:g.stamp+1<18446744073709551616) (l:0<data.length) (j:partsOf data.length<256) (i:g.next+partsOf data.length≤n) (hd:pO data = .inl (v+1,os)) :
  Step 1 n H g v T (v+1) (foldS T os) (gI H g data).1 (gI H g data).2.1 (gI H g data).2.2:=by
 obtain ⟨w1,w2,w3,m,w5,s⟩:=wJ (at':=g.next) (data:=data) (v':=v+1) (T':=foldS T os) h hs j i (fun d' a b c=>(tN h hs l j i hd a b c).2)
 unfold gI
 generalize fO H g g.next data=q at *
 obtain ⟨H1,r⟩:=q
 have d:May n H1 (g.stamp+1) (fun w U=>(w=v∧U=T)∨(w=v+1∧U=foldS T os)):=fun o=>by
  rcases w3 o with k | k
  ·exact ⟨v,T,.inl ⟨rfl,rfl⟩,k⟩
  ·exact ⟨v+1,_,.inr ⟨rfl,rfl⟩,k⟩
 cases r with
 | some f=>exact ⟨w1,fun e=>(by cases e),d,by show g.stamp+1≤_;omega,m,w5⟩
 | none =>
  refine ⟨w1,fun _ hdd => ?_,d,by show g.stamp+1≤_;omega,m,w5⟩
  obtain ⟨g1,g2,g3,g4,g5,g6,g7⟩:=w2 rfl hdd
  exact ⟨g2,g3,g4,g5,(tN h hs l j i hd g5 g4 g6).1 g7,i,hdd⟩
theorem xH {n:Nat} {H:fJ} {g:LogS} {v v':Nat} {T T':List E} (h:DiskUp n H g v T) (j:32≤n∧n≤128) (hs:g.stamp+1<18446744073709551616) (l:0<(gH v' T').length) (m:(gH v' T').length≤10+16*(n-8)) (hd:iD (gH v' T') = .inl (v',T')) :
  Step 1 n H g v T v' T' (fT H g v' T').1 (fT H g v' T').2.1 (fT H g v' T').2.2∧((fT H g v' T').2.2=none→(fT H g v' T').1.dp.dead=false→(fT H g v' T').2.1.next=2*placeOf n∧(fT H g v' T').2.1.stamp=g.stamp+1)∧(fT H g v' T').2.1.stamp=g.stamp+1:=by
 have x:=jf j.1 j.2
 have i:=mB m
 have y:=h.inv.yU.2
 have o:(1-g.slot)*placeOf n+partsOf (gH v' T').length≤n:=by
  obtain e | e:g.slot=0∨g.slot=1:=by omega
  ·rw [e];omega
  ·rw [e];omega
 obtain ⟨w1,w2,w3,s,w5,B⟩:=wJ (at':=(1-g.slot)*placeOf n) (data:=gH v' T') (v':=v') (T':=T') h hs (by omega) o (fun d' a b c=>(tP h hs l (by omega) i (by omega) hd a b c).2)
 have hlen:H.seen.length=n:=by rw [h.seen,h.len]
 unfold fT
 rw [hlen]
 generalize fO H g ((1-g.slot)*placeOf n) (gH v' T')=q at *
 obtain ⟨H1,r⟩:=q
 have d:May n H1 (g.stamp+1) (fun w U=>(w=v∧U=T)∨(w=v'∧U=T')):=fun u=>by
  rcases w3 u with k | k
  ·exact ⟨v,T,.inl ⟨rfl,rfl⟩,k⟩
  ·exact ⟨v',_,.inr ⟨rfl,rfl⟩,k⟩
 cases r with
 | some f=>exact ⟨⟨w1,fun e=>(by cases e),d,by show g.stamp+1≤_;omega,s,w5⟩,fun e=>(by cases e),rfl⟩
 | none =>
  refine ⟨⟨w1,fun _ hdd => ?_,d,by show g.stamp+1≤_;omega,s,w5⟩,fun _ _=>⟨rfl,rfl⟩,rfl⟩
  obtain ⟨g1,g2,g3,g4,g5,g6,g7⟩:=w2 rfl hdd
  exact ⟨g2,g3,g4,g5,(tP h hs l (by omega) i (by omega) hd g5 g4 g6).1 g7,by show 2*placeOf n≤n;omega,hdd⟩
theorem DiskInv.zero {d:List Part} {p slot:Nat} {T:List E} {next:Nat} (h:DiskInv decSB decDB foldS [] d p slot 0 T next):next=2*p:=by
 obtain ⟨b,v0,i,l,j,m,hc,-⟩:=h
 have h1:=hc.pos.2.2.1
 have h2:l=[]:=bK (by omega)
 subst h2
 cases hc
 rfl
theorem FP {n:Nat} {H:fJ} {g:LogS} {v:Nat} {T:List E} {data:List UInt8} {os:List OpB} (h:DiskUp n H g v T) (s:32≤n∧n≤128) (hs:g.stamp+2<18446744073709551616) (y:0<data.length) (R:data.length≤700) (hd:pO data = .inl (v+1,os))
  (ha:v≠0→0<(gH v T).length∧(gH v T).length≤10+16*(n-8)∧iD (gH v T) = .inl (v,T)) :
  Step 2 n H g v T (v+1) (foldS T os) (gR H g data v T).1 (gR H g data v T).2.1 (gR H g data v T).2.2:=by
 have M:=jf s.1 s.2
 have N:partsOf data.length≤14:=by unfold partsOf;omega
 have hlen:H.seen.length=n:=by rw [h.seen,h.len]
 unfold gR
 rw [hlen]
 by_cases l:n<g.next+partsOf data.length
 ·rw [aF l]
  have G:v≠0:=fun e=>by
   subst e
   have:=h.inv.zero
   omega
  obtain ⟨a1,a2,a3⟩:=ha G
  obtain ⟨k,B,I⟩:=xH h s (by omega) a1 a2 a3
  generalize fT H g v T=q at *
  obtain ⟨H1,g1,r⟩:=q
  simp only at k B I
  cases r with
  | some f =>
   exact ⟨k.dp,fun e=>(by cases e),k.may.mono (dR _) fun w U h => .inl (h.elim id id),by show g1.stamp≤_;omega,k.err,k.fail⟩
  | none =>
   show Step 2 n H g v T (v+1) (foldS T os) (gI H1 g1 data).1 (gI H1 g1 data).2.1 (gI H1 g1 data).2.2
   rcases cD H1.dp.dead with hdd | hdd
   ·
    have hm:=k.may.mono (dR _) (fun _ _ h=>h)
    have hw:=qx (gj (g1.stamp+1) data) H1 g1.next
    unfold gI fO
    generalize gD (gj (g1.stamp+1) data) H1 g1.next=q at *
    obtain ⟨b,r2⟩:=q
    obtain ⟨u1,u2,-,u4,u5,u6,u7⟩:=hw
    simp only at u1 u2 u4 u5 u6 u7
    obtain ⟨u8,u9⟩:=u4 hdd
    have m:May n b (g.stamp+2) (fun w U=>(w=v∧U=T)∨(w=v+1∧U=foldS T os)):=fun j=>by
     rw [u9,u1]
     obtain ⟨w,U,hc,u⟩:=hm j
     exact ⟨w,U,.inl (hc.elim id id),u⟩
    cases r2 with
    | some f=>exact ⟨k.dp.trans u2,fun e=>(by cases e),m,by show g1.stamp+1≤_;omega,fun f i=>⟨(u5 f i).1,k.fail (u5 f i).2⟩,fun h=>k.fail (u6 h)⟩
    | none =>
     have C:b.flush.1.held=b.held∧b.flush.1.late=b.late∧b.dp.Same b.flush.1.dp∧b.flush.1.dp.dead=true∧(∀ f,b.flush.2=some f→1≤f∧0≤b.fail)∧(0≤b.flush.1.fail→0≤b.fail):=by
      unfold fJ.flush
      split
      ·rename_i i
       exact ⟨rfl,rfl,.refl _,u8,fun f h=>(by cases h;exact ⟨ah _,sQ i⟩),jZ⟩
      ·rw [ns u8,aF rfl]
       exact ⟨rfl,rfl,mi _,ns u8,fun f h=>(by cases h),jZ⟩
     obtain ⟨f1,f2,f3,f4,f5,f6⟩:=C
     show Step 2 n H g v T (v+1) (foldS T os) (qf g1 data b.flush).1 (qf g1 data b.flush).2.1 (qf g1 data b.flush).2.2
     generalize b.flush=q at *
     obtain ⟨x,J⟩:=q
     simp only at f1 f2 f3 f4 f5 f6
     have o:May n x (g.stamp+2) (fun w U=>(w=v∧U=T)∨(w=v+1∧U=foldS T os)):=fun j=>by
      rw [f2,f1]
      exact m j
     cases J with
     | some f=>exact ⟨(k.dp.trans u2).trans f3,fun e=>(by cases e),o,by show g1.stamp+1≤_;omega,fun f i=>⟨(f5 f i).1,k.fail (u6 (f5 f i).2)⟩,fun h=>k.fail (u6 (f6 h))⟩
     | none =>
      refine ⟨(k.dp.trans u2).trans f3,fun _ e => ?_,o,by show g1.stamp+1≤_;omega,fun f i=>(by cases i),fun h=>k.fail (u6 (f6 h))⟩
      rw [show (qf g1 data (x,none)).1.dp.dead=x.dp.dead from rfl,f4] at e
      cases e
   ·obtain ⟨D,O⟩:=B rfl hdd
    have F:=k.good rfl hdd
    have d:=xP F (by omega) y (by omega) (by rw [D];omega) hd
    have Q:=d.stamp
    refine ⟨k.dp.trans d.dp,d.good,?_,?_,fun f i=>⟨(d.err f i).1,k.fail (d.err f i).2⟩,fun h=>k.fail (d.fail h)⟩
    ·exact fun j=>by
      obtain ⟨w,U,hc,u⟩:=d.may j
      exact ⟨w,U,by
       rcases hc with h | h
       ·exact .inl h
       ·exact .inr h,u.mono (by omega)⟩
    ·have:=d.stamp
     omega
 ·rw [aw l]
  have k:=xP h (by omega) y (by omega) (by omega) hd
  exact ⟨k.dp,k.good,k.may.mono (dR _) fun _ _ h=>h,eM k.stamp,k.err,k.fail⟩
theorem AL:∀ (os:List ry) (d:DpS),d.dead=true→(d.run os).S=d.S∧(d.run os).log=d.log∧(d.run os).room=d.room∧(d.run os).dead=true
 | [],d,h=>⟨rfl,rfl,rfl,h⟩
 | o::os,d,h=>by
  have hs:d.step o=d.stop:=d.yc o (ns h)
  have:=AL os (d.step o) (by rw [hs];exact ns h)
  rw [hs] at this
  show (((d.step o).run os).S=_∧_)
  rw [show (d.run (o::os))=(d.step o).run os from rfl,hs]
  exact this
theorem vg (d:DpS) (T:List E) (b:SortedE d.S) (i:SortedE T) (hk:∀ x∈T,inTab x.1) (j:overS T d.room=none) :
  (d.run (je d.S T)).room=d.room∧(∀ x∈(d.run (je d.S T)).S,x∈d.S∨x∈T)∧SortedE (d.run (je d.S T)).S∧
   ((d.run (je d.S T)).dead=false→d.dead=false∧(d.run (je d.S T)).S=T∧(d.run (je d.S T)).log=d.log++(je d.S T).map qu):=by
 refine ⟨AM _ _,fun x l => ?_,(DpS.sD (je d.S T) b).1,fun hdd => ?_⟩
 ·rcases Dn _ d x l with h | h
  ·exact .inl h
  ·exact .inr (FG h)
 ·have hd:d.dead=false:=by
   rcases cD d.dead with h | h
   ·rw [(AL _ d h).2.2.2] at hdd;cases hdd
   ·exact h
  refine ⟨hd,?_⟩
  have e:=G6 d T hd b i hk j
  rw [e] at hdd⊢
  by_cases hl:d.left<0
  ·obtain ⟨u1,u2⟩:=Gh d (je d.S T) hl
   exact ⟨u1.trans (Dk b i),u2⟩
  ·have hle:(je d.S T).length≤d.left.toNat:=by
    unfold DpS.zl at hdd
    rw [aw hl] at hdd
    have:=of_decide_eq_false hdd
    omega
   unfold DpS.zl
   rw [aw hl,Nat.min_eq_right hle,be]
   exact ⟨Dk b i,rfl⟩
theorem j5 {v:Nat} (h:isVersionB v=true):v<18446744073709551615:=by
 unfold isVersionB at h
 simp only [dN,dj] at h
 exact h.2
structure TabOk (n:Nat) (room:Nat→Int) (v:Nat) (T:List E):Prop where
 sorted:SortedE T
 good:∀ x∈T,EntGood x
 over:overS T room=none
 size:sizeS T≤16*(n-8)
 zero:v=0→T=[]
 ver:v≠0→isVersionB v=true
 v64:v<18446744073709551615
theorem TabOk.tab {n:Nat} {room:Nat→Int} {v:Nat} {T:List E} (h:TabOk n room v T):∀ x∈T,inTab x.1:=fun x b=>⟨(h.good x b).1,(h.good x b).2.1⟩
theorem TabOk.len {n:Nat} {l:List Int} {v:Nat} {T:List E} (h:TabOk n (roomN l) v T):T.length≤120:=(ThereOk.len (l:=l) (P:=fun _=>True) ⟨h.sorted,h.tab,vU h.over,fun _ _=>cM⟩)
theorem TabOk.nil (n:Nat) (l:List Int):TabOk n (roomN l) 0 []:=⟨SortedE.nil,fun _ h=>(by cases h),by
 have b:=(kA l 0).1
 have h1:=(kA l 1).1
 have h2:=(kA l 2).1
 unfold overS
 rw [aw (by show ¬(roomN l 0<((0:Nat):Int));omega),aw (by show ¬(roomN l 1<((0:Nat):Int));omega),aw (by show ¬(roomN l 2<((0:Nat):Int));omega)],aL _,fun _=>rfl,fun h=>absurd rfl h,by omega⟩
theorem vO {T:List E} {room:Nat→Int} {n:Nat} (h:iq T room n=none):overS T room=none∧sizeS T≤16*(n-8):=by
 unfold iq at h
 split at h
 ·cases h
 ·rename_i b
  split at h
  ·cases h
  ·exact ⟨b,by omega⟩
def uV (P:PAg):ie→Prop
 | .delta v os=>v=P.a.V+1∧isVersionB v=true∧pO (jo v os) = .inl (v,os)∧0<(jo v os).length∧(jo v os).length≤700∧∀ x∈foldS P.a.T os,EntGood x
 | .state v T=>P.a.V<v∧isVersionB v=true∧SortedE T∧∀ x∈T,EntGood x
structure UpAg (n:Nat) (l:List Int) (H:fJ) (P:PAg):Prop where
 disk:DiskUp n H P.lg P.a.V P.a.T
 dpS:H.dp.S=P.a.T
 room:H.dp.room=roomN l
 tab:TabOk n (roomN l) P.a.V P.a.T
 deg:P.a.deg=none
theorem uV.tab {n:Nat} {l:List Int} {H:fJ} {P:PAg} {tk:ie} (h:uV P tk) (hu:UpAg n l H P) (hl:iq (tk.T P.a.T) (roomN l) n=none):TabOk n (roomN l) tk.V (tk.T P.a.T)∧P.a.V<tk.V:=by
 obtain ⟨h1,h2⟩:=vO hl
 cases tk with
 | delta v os =>
  obtain ⟨g1,g2,g3,g4,g5,g6⟩:=h
  have b:=j6 g2
  exact ⟨⟨nW os hu.tab.sorted,g6,h1,h2,fun e=>(by rw [show (ie.delta v os).V=v from rfl,g1] at e;omega),fun _=>g2,j5 g2⟩,by show P.a.V<v;omega⟩
 | state v T =>
  obtain ⟨g1,g2,g3,g4⟩:=h
  exact ⟨⟨g3,g4,h1,h2,fun e=>(by rw [show (ie.state v T).V=v from rfl] at e;omega),fun _=>g2,j5 g2⟩,g1⟩
theorem jD (a:AgA) (k:UInt8) (b:List UInt8):(a.put k b).deg=a.deg∧(a.put k b).V=a.V∧(a.put k b).T=a.T:=by
 unfold AgA.put
 split <;> exact ⟨rfl,rfl,rfl⟩
theorem Fu {n:Nat} {l:List Int} {H:fJ} {P:PAg} {tk:ie} (hu:UpAg n l H P) (d:32≤n∧n≤128) (hs:P.lg.stamp+2<18446744073709551616) (h:uV P tk) (hl:iq (tk.T P.a.T) (roomN l) n=none) :
  Step 2 n H P.lg P.a.V P.a.T tk.V (tk.T P.a.T) (tk.log H P).1 (tk.log H P).2.1 (tk.log H P).2.2:=by
 obtain ⟨b,-⟩:=h.tab hu hl
 have enc:∀ {v:Nat} {T:List E},TabOk n (roomN l) v T→v≠0→0<(gH v T).length∧(gH v T).length≤10+16*(n-8)∧iD (gH v T) = .inl (v,T):=fun {v T} k i=>by
  rw [lH]
  exact ⟨by omega,by have:=k.size;omega,tJ (k.ver i) k.sorted k.good (by have:=k.len;omega)⟩
 cases tk with
 | delta v os =>
  obtain ⟨rfl,g2,g3,g4,g5,g6⟩:=h
  exact FP hu.disk d hs g4 g5 g3 (enc hu.tab)
 | state v T =>
  obtain ⟨g1,g2,g3,g4⟩:=h
  obtain ⟨j,m,o⟩:=enc b (by show v≠0;omega)
  obtain ⟨k,-,-⟩:=xH hu.disk d (by omega) j m o
  exact ⟨k.dp,k.good,k.may.mono (dR _) fun _ _ h=>h,eM k.stamp,k.err,k.fail⟩
structure I1 (n:Nat) (l:List Int) (H:fJ) (P:PAg) (tk:ie) (H':fJ) (P':PAg):Prop where
 may:May n H' (P.lg.stamp+2) (fun w U=>(w=P.a.V∧U=P.a.T)∨(w=tk.V∧U=tk.T P.a.T))
 mem:∀ x∈H'.dp.S,x∈P.a.T∨x∈tk.T P.a.T
 sorted:SortedE H'.dp.S
 room:H'.dp.room=roomN l
 fail:0≤H'.fail→0≤H.fail
 stamp:P'.lg.stamp≤P.lg.stamp+2
 alive:H'.dp.dead=false→(UpAg n l H' P'∧P'.a=P.a.takes tk (roomN l) n∧P'.sec=P.sec∧H'.dp.log=H.dp.log++P.a.done tk (roomN l) n)∨
  (P'.a=P.a.stops (12,0)∧1≤P'.sec∧0≤H.fail∧H'.dp.S=P.a.T∧H'.dp.log=H.dp.log)
theorem CY {n:Nat} {l:List Int} {H:fJ} {P:PAg} {tk:ie} (hu:UpAg n l H P) (G:32≤n∧n≤128) (hs:P.lg.stamp+2<18446744073709551616) (h:uV P tk) (hl:iq (tk.T P.a.T) (roomN l) n=none) :
  I1 n l H P tk (jU H P tk).1 (jU H P tk).2:=by
 have k:=Fu hu G hs h hl
 obtain ⟨d,-⟩:=h.tab hu hl
 have hlen:H.seen.length=n:=by rw [hu.disk.seen,hu.disk.len]
 have e:jU H P tk=uL P tk (tk.log H P):=by
  unfold jU
  rw [hu.room,hlen,hl]
 rw [e]
 generalize tk.log H P=q at *
 obtain ⟨H1,g1,r⟩:=q
 obtain ⟨j,D,o,s,u,y⟩:=k
 simp only at j D o s u y
 have i:H1.dp.S=P.a.T:=j.1.trans hu.dpS
 have m:H1.dp.room=roomN l:=j.2.2.trans hu.room
 cases r with
 | some f=>exact ⟨o,fun x B => .inl (by rw [←i];exact B),by show SortedE H1.dp.S;rw [i];exact hu.tab.sorted,m,y,s,fun _ => .inr ⟨rfl,(u f rfl).1,(u f rfl).2,i,j.2.1⟩⟩
 | none =>
  obtain ⟨E,I,J,M⟩:=vg H1.dp (tk.T P.a.T) (by rw [i];exact hu.tab.sorted) d.sorted d.tab (by rw [m];exact d.over)
  refine ⟨o,fun x B => ?_,J,E.trans m,y,s,fun hdd => .inl ?_⟩
  ·rcases I x B with h | h
   ·exact .inl (by rw [←i];exact h)
   ·exact .inr h
  ·obtain ⟨c1,c2,c3⟩:=M hdd
   have b:=D rfl c1
   obtain ⟨N,F,C⟩:=jD {P.a with V:=tk.V,T:=tk.T P.a.T} 17 (j4 tk.V)
   refine ⟨⟨⟨b.seen,b.late,b.len,b.stamps,?_,b.next,hdd⟩,?_,E.trans m,?_,N.trans hu.deg⟩,?_,rfl,?_⟩
   ·show DiskInv decSB decDB foldS [] (H1.held.map parseSec) (placeOf n) g1.slot (AgA.put {P.a with V:=tk.V,T:=tk.T P.a.T} 17 (j4 tk.V)).V (AgA.put {P.a with V:=tk.V,T:=tk.T P.a.T} 17 (j4 tk.V)).T g1.next
    rw [F,C]
    exact b.inv
   ·exact c2.trans C.symm
   ·show TabOk n (roomN l) (AgA.put {P.a with V:=tk.V,T:=tk.T P.a.T} 17 (j4 tk.V)).V (AgA.put {P.a with V:=tk.V,T:=tk.T P.a.T} 17 (j4 tk.V)).T
    rw [F,C]
    exact d
   ·unfold AgA.takes
    rw [hl]
    rfl
   ·refine c3.trans ?_
    rw [j.2.1,i]
    unfold AgA.done
    rw [hl]
theorem An {d:List (List UInt8)} {s:Nat} (h:stampsLe d s):gK d≤s:=by
 have key:∀ (d:List (List UInt8)) (m:Nat),m≤s→stampsLe d s→d.foldl (fun m b=>max m (parseSec b).stamp) m≤s:=by
  intro d
  induction d with
  | nil=>exact fun m h _=>h
  | cons b d ih=>exact fun m hm hd=>ih _ (by have:=hd b (by simp);show max m (parseSec b).stamp≤s;omega) fun x i=>hd x (by simp [i])
 exact key d 0 (aL _) h
theorem Aj (d:List (List UInt8)):stampsLe d (gK d):=by
 have key:∀ (d:List (List UInt8)) (m:Nat),m≤d.foldl (fun m b=>max m (parseSec b).stamp) m∧stampsLe d (d.foldl (fun m b=>max m (parseSec b).stamp) m):=by
  intro d
  induction d with
  | nil=>exact fun m=>⟨ah _,fun x h=>(by cases h)⟩
  | cons b d ih =>
   intro m
   obtain ⟨h1,h2⟩:=ih (max m (parseSec b).stamp)
   rw [eI]
   refine ⟨by omega,fun x i => ?_⟩
   rcases aV.1 i with rfl | i
   ·omega
   ·exact h2 x i
 exact (key d 0).2
theorem pe {n s v:Nat} {d:List (List UInt8)} {T:List E} (h:lF n d s v T):∃ g,Az d=(g,v,T)∧g.stamp≤s∧stampsLe d g.stamp∧g.next≤n∧DiskInv decSB decDB foldS [] (d.map parseSec) (placeOf n) g.slot v T g.next:=by
 obtain ⟨h1,h2,slot,next,h3,h4⟩:=h
 obtain ⟨b,v0,i,f1,f2⟩:=h4.found
 have hl:(d.map parseSec).length=n:=by rw [aH,h1]
 refine ⟨⟨gK d,slot,next⟩,?_,An h2,Aj d,h3,h4⟩
 unfold Az
 simp only [hl]
 rw [f1]
 simp only
 have:=f2 (n+1) (by omega)
 rw [this]
inductive Started (n:Nat) (l:List Int) (C:Nat→List E→Prop) (s:Nat) (H H':fJ):PAg⊕(Nat×Nat×Nat)→Prop
 | bad (f:Nat) (h1:1≤f) (h2:0≤H.fail) (h3:H'.dp=H.dp) (h4:May n H' s C) (h5:H'.fail = -1) (h6:H'.seen=H.seen∧H'.held=H.held∧H'.late=[]):Started n l C s H H' (.inr (12,0,f))
 | good (P:PAg) (v:Nat) (T:List E) (h1:C v T) (h2:P.a=begunA v T∧P.sec=0) (h3:May n H' s C) (h4:∀ x∈H'.dp.S,x∈H.dp.S∨x∈T) (h5:SortedE H'.dp.S) (h6:H'.dp.room=roomN l) (h7:0≤H'.fail→0≤H.fail) (h8:P.lg.stamp≤s)
   (h9:H'.dp.dead=false→UpAg n l H' P):Started n l C s H H' (.inl P)
theorem jK (v:Nat) (T:List E):(begunA v T).V=v∧(begunA v T).T=T∧(begunA v T).deg=none:=by
 obtain ⟨b,d,i⟩:=jD ⟨v,T,[],none,none⟩ 16 (j4 v)
 exact ⟨d,i,b⟩
theorem wD {n:Nat} {l:List Int} {C:Nat→List E→Prop} {s:Nat} {H:fJ} (hm:May n H s C) (u:∀ v T,C v T→TabOk n (roomN l) v T) (hl:H.late=[]) (hs:H.seen=H.held) (x:SortedE H.dp.S) (i:H.dp.room=roomN l) :
  Started n l C s H (ia H).1 (ia H).2:=by
 obtain ⟨v,T,hc,d⟩:=hm fun _=>true
 rw [hl] at d
 have d:lF n H.held s v T:=d
 unfold ia readAll
 by_cases m:0≤H.fail∧H.fail<H.seen.length
 ·rw [aF m]
  exact .bad _ (by omega) m.1 rfl (fun j=>⟨v,T,hc,by rw [show ({H with fail := -1} : fJ).late=[] from hl];exact d⟩) rfl ⟨rfl,rfl,hl⟩
 ·rw [aw m]
  obtain ⟨g,y,g1,g2,g3,g4⟩:=pe d
  simp only
  rw [hs,y]
  simp only
  have b:=u v T hc
  rw [i,b.over]
  obtain ⟨q,o,B⟩:=jK v T
  obtain ⟨r,D,F,G⟩:=vg H.dp T x b.sorted b.tab (by rw [i];exact b.over)
  refine .good _ v T hc ⟨rfl,rfl⟩ (fun j=>⟨v,T,hc,?_⟩) D F (r.trans i) (fun h => ?_) g1 fun hdd => ?_
  ·show lF n (applySel j 0 H.late H.held) s v T
   rw [hl]
   exact d
  ·have I:0≤(if H.fail<0 then H.fail else H.fail-(H.held.length:Int)):=h
   split at I <;> omega
  ·obtain ⟨c1,c2,c3⟩:=G hdd
   refine ⟨⟨rfl,hl,d.len,g2,?_,g3,hdd⟩,?_,r.trans i,?_,B⟩
   ·show DiskInv decSB decDB foldS [] (H.held.map parseSec) (placeOf n) g.slot (begunA v T).V (begunA v T).T g.next
    rw [q,o]
    exact g4
   ·exact c2.trans o.symm
   ·show TabOk n (roomN l) (begunA v T).V (begunA v T).T
    rw [q,o]
    exact b
theorem vd {n:Nat} {s:Nat} {C:Nat→List E→Prop} {H:fJ} (hm:May n H s C) (mask cut fail:Int) :
  May n (H.again mask cut fail) s C∧(H.again mask cut fail).late=[]∧(H.again mask cut fail).seen=(H.again mask cut fail).held∧(H.again mask cut fail).dp.S=H.dp.S∧(H.again mask cut fail).dp.room=H.dp.room∧(0≤(H.again mask cut fail).fail→0≤fail):=by
 obtain ⟨v,T,hc,b⟩:=hm (pj mask)
 exact ⟨fun d=>⟨v,T,hc,b⟩,rfl,rfl,rfl,rfl,fun h=>(by have i:0≤max fail (-1):=h;omega)⟩
theorem Aw (n:Nat) (l:List Int) (d:32≤n∧n≤128):May n (nb n (roomN l)) 0 (fun v T=>v=0∧T=[])∧(nb n (roomN l)).late=[]∧(nb n (roomN l)).seen=(nb n (roomN l)).held∧(nb n (roomN l)).dp=⟨-1,false,roomN l,[],[]⟩∧(nb n (roomN l)).fail = -1:=by
 have j:=jf d.1 d.2
 refine ⟨fun m=>⟨0,[],⟨rfl,rfl⟩,?_⟩,rfl,rfl,rfl,rfl⟩
 show lF n (List.replicate n iE) 0 0 []
 refine ⟨bG,fun b i => ?_,0,2*placeOf n,by omega,Gm decSB decDB foldS [] n (placeOf n)⟩
 rw [(List.mem_replicate.1 i).2,vV]
 exact ah _
theorem pw {a a1:AgA} {frame:List UInt8} (h:a.taken frame=(a1,none)):a1.V=a.V∧a1.T=a.T∧a1.deg=a.deg:=by
 have i:∀ (a:AgA) (k:UInt8) (b:List UInt8),(a.put k b).V=a.V∧(a.put k b).T=a.T∧(a.put k b).deg=a.deg:=fun a k b=>⟨(jD a k b).2.1,(jD a k b).2.2,(jD a k b).1⟩
 have d:∀ (a:AgA) (k:Nat),(a.bad k).V=a.V∧(a.bad k).T=a.T∧(a.bad k).deg=a.deg:=fun a k=>by
  obtain ⟨h1,h2,h3⟩:=i (a.gW k) 16 (j4 (a.gW k).V)
  obtain ⟨g1,g2,g3⟩:=i a 18 [UInt8.ofNat k]
  exact ⟨h1.trans g1,h2.trans g2,h3.trans g3⟩
 unfold AgA.taken at h
 split at h
 ·cases h
  exact i _ _ _
 ·split at h
  ·cases h
   exact d _ _
  ·split at h
   ·unfold AgA.delta at h
    split at h
    ·cases h;exact d _ _
    ·split at h
     ·cases h;exact i _ _ _
     ·split at h
      ·cases h;exact i _ _ _
      ·cases h
   ·split at h
    ·injection h with h _
     subst h
     split
     ·exact i _ _ _
     ·exact d _ _
    ·split at h
     ·injection h with h _
      subst h
      unfold AgA.mM
      split
      ·exact d _ _
      ·split
       ·exact d _ _
       ·split
        ·exact d _ _
        ·split
         ·exact d _ _
         ·split
          ·exact i _ _ _
          ·exact i _ _ _
     ·split at h
      ·unfold AgA.piece at h
       split at h
       ·cases h;exact d _ _
       ·split at h
        ·cases h;exact d _ _
        ·split at h
         ·cases h;exact i _ _ _
         ·split at h
          ·cases h;exact i _ _ _
          ·split at h
           ·cases h;exact i _ _ _
           ·unfold AgA.lO at h
            split at h
            ·cases h;exact d _ _
            ·split at h
             ·cases h;exact d _ _
             ·split at h
              ·cases h;exact i _ _ _
              ·cases h
      ·cases h;exact d _ _
theorem px {a a1:AgA} {frame:List UInt8} {tk:ie} (h:a.taken frame=(a1,some tk)) (j:SortedE a.T) (l:∀ x∈a.T,EntGood x) (sec:Nat) (lg:LogS):a.deg=none∧a1.V=a.V∧a1.T=a.T∧a1.deg=a.deg∧a1.out=a.out∧uV ⟨a1,sec,lg⟩ tk:=by
 unfold AgA.taken at h
 split at h
 ·cases h
 ·rename_i hd
  have hd:a.deg=none:=Option.not_isSome_iff_eq_none.1 hd
  refine ⟨hd,?_⟩
  split at h
  ·cases h
  ·split at h
   ·unfold AgA.delta at h
    split at h
    ·cases h
    ·rename_i v os b
     split at h
     ·cases h
     ·split at h
      ·cases h
      ·cases h
       have i:=b
       rw [oB] at i
       obtain ⟨hw,he⟩:=uE _ _ _ i
       have hl:=mx hw
       have d:isVersionB v=true:=by
        unfold gB at hw
        split at hw
        ·cases hw
        ·rename_i d
         simpa using d
       refine ⟨rfl,rfl,rfl,rfl,by show v=a.V+1;omega,d,by rw [he];exact b,by omega,by omega,?_⟩
       exact ((⟨ah _,j,l⟩:jy a.T.length a.T).fold hw).good
   ·split at h
    ·cases h
    ·split at h
     ·cases h
     ·split at h
      ·unfold AgA.piece at h
       split at h
       ·cases h
       ·split at h
        ·cases h
        ·split at h
         ·cases h
         ·split at h
          ·cases h
          ·split at h
           ·cases h
           ·unfold AgA.lO at h
            split at h
            ·cases h
            ·rename_i v T b
             split at h
             ·cases h
             ·split at h
              ·cases h
              ·cases h
               refine ⟨rfl,rfl,rfl,rfl,?_,(nO b).1,(pV b).2,(nO b).2.1⟩
               simp only at *
               omega
      ·cases h
end Go.Proofs.YtkkfmkhbdoeglaaGreatDoor
