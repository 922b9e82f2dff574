/- A part of what is proved here: lemmas and contracts of single functions. No condition but those that each names. -/
import Derived.Test.YtkkfmkhbdoeglaaGreatDoorG00
import Derived.Test.YtkkfmkhbdoeglaaGreatDoorG09
import Derived.Test.YtkkfmkhbdoeglaaGreatDoorG12
import Derived.Test.YtkkfmkhbdoeglaaGreatDoorG16
import Derived.Test.YtkkfmkhbdoeglaaGreatDoorG18
set_option maxHeartbeats 1000000
set_option maxRecDepth 100000
namespace Go.Proofs.YtkkfmkhbdoeglaaGreatDoor
open Go.RowKit
def sZ (w:World) (g off k:Nat) (os:List OpB):Prop:=∀ j (h:j<os.length),k≤j→
 w.cell? ⟨g,off+j*4,none⟩=some (.int .i64 os[j].kind)∧w.cell? ⟨g,off+j*4+1,none⟩=some (.int .i64 os[j].table)∧w.cell? ⟨g,off+j*4+2,none⟩=some (.string ⟨os[j].key.toArray⟩)∧w.cell? ⟨g,off+j*4+3,none⟩=some (.string ⟨os[j].val.toArray⟩)
def kM (w1:World) (g off n:Nat) (os:List OpB) (i:Value) (wr:World):Prop :=
 ∃ k:Nat,k≤n∧i = .int .i64 k∧sZ wr g off k os∧(∀ i,i<n*4→wr.frozen? ⟨g,off+i,none⟩=false)∧g<wr.heap.size∧Ext (fun b=>b=g) w1 wr
def pf (w:World) (g o:Nat):World:=(((w.setCell ⟨g,o,none⟩ (.int .i64 0)).setCell ⟨g,o+1,none⟩ (.int .i64 0)).setCell ⟨g,o+2,none⟩ (.string ⟨#[]⟩)).setCell ⟨g,o+3,none⟩ (.string ⟨#[]⟩)
theorem iv {w:World} {b c i:Nat} {x y z v:Value} (d:c≠b) (h:w.cell? ⟨c,i,none⟩=some v):(((w.setCell ⟨b,0,none⟩ x).setCell ⟨b,1,none⟩ y).setCell ⟨b,2,none⟩ z).cell? ⟨c,i,none⟩=some v:=by
 rw [aQ (w:=w) (a:=⟨c,i,none⟩) ((Below.heap_setCell _ ⟨b,2,none⟩ z c d).trans ((Below.heap_setCell _ ⟨b,1,none⟩ y c d).trans (Below.heap_setCell w ⟨b,0,none⟩ x c d)))]
 exact h
theorem nd (w:World) (g o i:Nat) (h:i<o∨o+4≤i):(pf w g o).cell? ⟨g,i,none⟩=w.cell? ⟨g,i,none⟩:=by
 unfold pf
 rw [cF (h:=by simp <;> omega),cF (h:=by simp <;> omega),cF (h:=by simp <;> omega),cF (h:=by simp <;> omega)]
theorem ve (w:World) (g o i:Nat):(pf w g o).frozen? ⟨g,i,none⟩=w.frozen? ⟨g,i,none⟩:=by
 unfold pf
 simp only [eB]
theorem zh (w:World) (g o:Nat):(pf w g o).heap.size=w.heap.size:=by
 unfold pf
 simp only [size_setCell]
theorem Bq {S:Nat→Prop} {d w:World} (h:Ext S d w) (g o:Nat) (b:S g):Ext S d (pf w g o) :=
 (((h.setCell _ _ (.inl b)).setCell _ _ (.inl b)).setCell _ _ (.inl b)).setCell _ _ (.inl b)
theorem kM.step {w1 wr:World} {g off n k:Nat} {os:List OpB} (hk:k<n) (h1:sZ wr g off k os) (h2:∀ i,i<n*4→wr.frozen? ⟨g,off+i,none⟩=false) (h3:g<wr.heap.size) (h4:Ext (fun b=>b=g) w1 wr) :
  kM w1 g off n os (.int .i64 ((k+1:Nat):Int)) (pf wr g (off+k*4)):=by
 refine ⟨k+1,hk,rfl,fun j d m => ?_,fun i l => ?_,by rw [zh];exact h3,Bq h4 g _ rfl⟩
 ·obtain ⟨c0,c1,c2,c3⟩:=h1 j d (by omega)
  exact ⟨(nd wr g _ _ (by omega)).trans c0,(nd wr g _ _ (by omega)).trans c1,(nd wr g _ _ (by omega)).trans c2,(nd wr g _ _ (by omega)).trans c3⟩
 ·rw [ve]
  exact h2 i l
theorem rN (v:Nat) (sv:Value) (os:List OpB) (w:World) (hs:iy w sv os) (hg:ShapesVar w) (a0:mB os) (hw:gE v os=none) :
  Calls Tryz.prog 42 #[.agg #[.int .u64 v,sv]] w fun e w'=>e = .returned (.tuple #[.string ⟨(iG v os).toArray⟩,mL 0 0 0])∧Below w.heap.size w w':=by
 have a7:os.length≤8∧1≤os.length:=by
  unfold gE at hw
  split at hw
  ·cases hw
  ·split at hw
   ·cases hw
   ·omega
 have HS:=ab hs
 obtain ⟨a,cap,rfl,b1,-⟩:=hs.opened
 clear hs
 have HW:=ab hw
 clear hw
 obtain ⟨h8,h1⟩:=a7
 have ag:iy ((w.alloc (.cells #[.int .u64 (v:Int),.slice a os.length cap] 34)).alloc (.cells #[.int .i64 0,.int .i64 0,.int .i64 0] 38)) (.slice a os.length cap) os:=HS.out.below (((Below.refl _ w).alloc (af _) _).alloc (by simp) _)
 have ba:=ab ag
 clear ag
 have B0:Hid (((w.alloc (.cells #[.int .u64 (v:Int),.slice a os.length cap] 34)).alloc (.cells #[.int .i64 0,.int .i64 0,.int .i64 0] 38)).heap[w.heap.size]?=some (.cells #[.int .u64 (v:Int),.slice a os.length cap] 34 (0,0))):=ab (fG _ _ (fA w _))
 have R0:Hid (((w.alloc (.cells #[.int .u64 (v:Int),.slice a os.length cap] 34)).alloc (.cells #[.int .i64 0,.int .i64 0,.int .i64 0] 38)).heap[w.heap.size+1]?=some (.cells #[.int .i64 0,.int .i64 0,.int .i64 0] 38 (0,0))):=ab (by have:=fA (w.alloc (.cells #[.int .u64 (v:Int),.slice a os.length cap] 34)) (.cells #[.int .i64 0,.int .i64 0,.int .i64 0] 38);simpa using this)
 go_enter Tryz.func42,Tryz.ntmps42
 go_wp2_with (at_builtin;refine ji rfl _ (.tmp 10) rfl (w.heap.size+1+1) (.slice none 0 0) [] rfl (OwnS.nil _ _ _) os (by exact ba.out) (by simp;omega) (by simp) ?_;intro v2 w2 d bb N _;simp only [aO] at d;obtain ⟨sa,a1,rfl⟩:=d.shape;have V:=ab (fy N (by omega) B0.out);have R2:=ab (fy N (by omega) R0.out);have c0:w2.cell? ⟨w.heap.size,0,none⟩=some (.int .u64 v):=ae _ _ 0 _ _ _ V.out;have cq:=fw V.out)
 have bS:=ab d
 have O:=d.gQ
 have a2:=ab O
 clear O
 have cr:w.heap.size+1+1≤w2.heap.size:=by simpa using bb.size
 have b2:Below w.heap.size w w2:=(((Below.refl _ w).alloc (af _) _).alloc (by simp) _).trans (N.mono (by omega))
 refine (yv v (.slice sa os.length a1) os _ (by exact d.ops) (hg.new b2) a0 HW.out).mono ?_
 rintro e w3 ⟨bv,rfl,y,G⟩
 obtain ⟨dn,E,rfl⟩:=y.shape
 have B3:=ab (fy G (fw V.out) V.out)
 have R3:=ab (fy G (fw R2.out) R2.out)
 have W:=ab (d.below G)
 have b3:=b2.tn G
 have bl:1≤(iG v os).length:=by unfold iG;simp;omega
 clear d
 go_wp2_with fail
 refine (pU _).mono ?_
 rintro e l ⟨rfl,u⟩
 have B4:=ab (fy u (fw B3.out) B3.out)
 have R4:=ab (fy u (fw R3.out) R3.out)
 have br:=ab (W.out.below u)
 have bs:=ab (y.below u)
 have b4:=b3.tn u
 have cs:=u.size
 clear y
 have b8:(((iG v os).length:Int)==0)=false:=by rw [aC];omega
 generalize hL:(iG v os).length=L at *
 clear bl
 obtain ⟨-,a4 | ⟨g,off,ca,bt,ct,o,cu,cv,B,ak⟩⟩:=br.out
 ·exact absurd a4.2 (by omega)
 cases bt
 have Q:sZ l g off 0 os:=fun j X _=>by
  have cB:=iX os
  obtain ⟨I,J,M,Y⟩:=mx os j X
  rw [aw (by omega)] at I J M Y
  refine ⟨?_,?_,?_,?_⟩
  ·rw [B (j*4) (by omega),I]
  ·rw [aY,B (j*4+1) (by omega),J]
  ·rw [aY,B (j*4+2) (by omega),M]
  ·rw [aY,B (j*4+3) (by omega),Y]
 have al:=ab Q
 have am:=ab (fun i (hi:i<os.length*4)=>(ak i (by omega)).2)
 clear Q B ak
 go_wp2
 generalize R:l.alloc (.cells #[.int .i64 0,.int .i64 0,.int .i64 0] 38)=w5
 have t5:Below l.heap.size l w5:=by rw [←R];exact (Below.refl _ l).alloc (af _) _
 have F5:Hid (w5.heap[l.heap.size]?=some (.cells #[.int .i64 0,.int .i64 0,.int .i64 0] 38 (0,0))):=ab (by rw [←R];exact fA l _)
 clear R
 have b5:=b4.tn t5
 have B5:=ab (fy t5 (fw B4.out) B4.out)
 have R5:=ab (fy t5 (fw R4.out) R4.out)
 have ap:=ab (bs.out.below t5)
 have h0:kM w5 g off os.length os (.int .i64 0) w5:=⟨0,aK _,rfl,fun j X hk=>by
   obtain ⟨I,J,M,Y⟩:=al.out j X hk
   exact ⟨(t5.cell (p:=⟨g,off+j*4,none⟩) o).trans I,(t5.cell (p:=⟨g,off+j*4+1,none⟩) o).trans J,(t5.cell (p:=⟨g,off+j*4+2,none⟩) o).trans M,(t5.cell (p:=⟨g,off+j*4+3,none⟩) o).trans Y⟩,
  fun i hi=>(t5.frozen (p:=⟨g,off+i,none⟩) o).trans (am.out i hi),ay o t5.size,Ext.refl _ _⟩
 have c4:=t5.size
 have c5:=fw F5.out
 have bH:g≠l.heap.size:=by omega
 clear al am
 go_loopw [31] (fun i wr=>kM w5 g off os.length os i wr) (fun i _=>os.length-(intOf i).toNat)
 case atStart=>exact h0
 case round =>
  clear h0
  obtain ⟨k,hk,rfl,r,m,bI,C⟩:=hrel
  have c6:=C.size
  have av:Below w.heap.size w wr:=b5.trans (C.below (by have:=b5.size;omega) (fun j X e=>by omega))
  have BR:=ab (C.at (fun e=>by omega) B5.out)
  have s:=ab (C.at (fun e=>by omega) R5.out)
  have Z:=ab (C.at (fun e=>bH e.symm) F5.out)
  by_cases D:k<os.length
  ·have q1:wr.cell? ⟨w.heap.size,1,none⟩=some (.slice a os.length cap):=ae _ _ 1 _ _ _ BR.out
   have c7:=fw BR.out
   obtain ⟨a',cap',he,bM,aE⟩:=(HS.out.below av).opened
   cases he
   obtain ⟨b,ci,rfl,c0,c1,c2,c3⟩:=aE k D
   obtain ⟨d0,d1,d2,d3⟩:=r k D (af _)
   have z0:=m (k*4) (by omega)
   have z1:=m (k*4+1) (by omega)
   have z2:=m (k*4+2) (by omega)
   have z3:=m (k*4+3) (by omega)
   rw [←aY] at z1 z2 z3
   have aa:=ab r
   have a5:=ab m
   have cl:(k:Int)<os.length:=by omega
   have c8:=fE c0
   have co:=DP os[k].kind os[k].table os[k].key os[k].val
   clear aE bM r m
   go_wp2
   go_quiet (fail)
   go_wp2
   exact ⟨kM.step (wr:=wr.drewN nq) D aa.out a5.out bI (C.drewN _),by simp [intOf];omega⟩
  ·obtain rfl:k=os.length:=by omega
   have c9:¬(os.length:Int)<os.length:=by omega
   have f0:wr.cell? ⟨l.heap.size,0,none⟩=some (.int .i64 0):=ae _ _ 0 _ _ _ Z.out
   have f1:wr.cell? ⟨l.heap.size,1,none⟩=some (.int .i64 0):=ae _ _ 1 _ _ _ Z.out
   have f2:wr.cell? ⟨l.heap.size,2,none⟩=some (.int .i64 0):=ae _ _ 2 _ _ _ Z.out
   have r0:wr.cell? ⟨w.heap.size+1,0,none⟩=some (.int .i64 0):=ae _ _ 0 _ _ _ s.out
   have r1:wr.cell? ⟨w.heap.size+1,1,none⟩=some (.int .i64 0):=ae _ _ 1 _ _ _ s.out
   have r2:wr.cell? ⟨w.heap.size+1,2,none⟩=some (.int .i64 0):=ae _ _ 2 _ _ _ s.out
   have z0:=aj _ _ 0 _ _ s.out
   have z1:=aj _ _ 1 _ _ s.out
   have z2:=aj _ _ 2 _ _ s.out
   have da:=fw s.out
   have cp:=fw Z.out
   have q:l.heap.size≠w.heap.size+1:=by omega
   have bX:g<w2.heap.size:=a2.out g rfl
   have F:=ap.out.fL
   have S:BytesAt wr (.slice dn L E) (iG v os) :=
    (ap.out.frame C.size (fun dp bP D=>C.block dp D (fun e=>by have:=F dp bP;omega))).bytes
   have x:(Value.slice dn L E).ownBlock≠some (w.heap.size+1):=fun e=>by have:=F _ e;omega
   clear F
   clear r m
   go_wp2
   go_region_held3 (fun w'=>Sem.run Tryz.prog (convert 59 9 (.slice dn L E)) w' = .ok (.string ⟨(iG v os).toArray⟩) w'∧w'.cell? ⟨l.heap.size,0,none⟩=some (.int .i64 0)∧w'.cell? ⟨l.heap.size,1,none⟩=some (.int .i64 0)∧w'.cell? ⟨l.heap.size,2,none⟩=some (.int .i64 0))
    (first
     | exact ⟨BytesAt.convert (w:=wr.drew) S,f0,f1,f2⟩
     | exact ⟨BytesAt.convert (w:=World.drew _) (((S.gh _ _ x).gh _ _ x).gh _ _ x),iv q f0,iv q f1,iv q f2⟩
     | exact ⟨BytesAt.convert (((S.gh _ _ x).gh _ _ x).gh _ _ x),iv q f0,iv q f1,iv q f2⟩)
    (fail)
   go_wp2
   have I:(((wr.setCell ⟨w.heap.size+1,0,none⟩ (.int .i64 0)).setCell ⟨w.heap.size+1,1,none⟩ (.int .i64 0)).setCell ⟨w.heap.size+1,2,none⟩ (.int .i64 0)).cell? ⟨w.heap.size+1,0,none⟩=some (.int .i64 0):=ae _ _ 0 _ _ _ (heap_setCell _ _ 2 _ (heap_setCell _ _ 1 _ (heap_setCell _ _ 0 _ s.out)))
   have J:(((wr.setCell ⟨w.heap.size+1,0,none⟩ (.int .i64 0)).setCell ⟨w.heap.size+1,1,none⟩ (.int .i64 0)).setCell ⟨w.heap.size+1,2,none⟩ (.int .i64 0)).cell? ⟨w.heap.size+1,1,none⟩=some (.int .i64 0):=ae _ _ 1 _ _ _ (heap_setCell _ _ 2 _ (heap_setCell _ _ 1 _ (heap_setCell _ _ 0 _ s.out)))
   have M:(((wr.setCell ⟨w.heap.size+1,0,none⟩ (.int .i64 0)).setCell ⟨w.heap.size+1,1,none⟩ (.int .i64 0)).setCell ⟨w.heap.size+1,2,none⟩ (.int .i64 0)).cell? ⟨w.heap.size+1,2,none⟩=some (.int .i64 0):=ae _ _ 2 _ _ _ (heap_setCell _ _ 2 _ (heap_setCell _ _ 1 _ (heap_setCell _ _ 0 _ s.out)))
   refine aI (v := .tuple #[.string ⟨(iG v os).toArray⟩,.agg #[.int .i64 0,.int .i64 0,.int .i64 0]]) (by simp [results,Tryz.results42,go_sem,I,J,M]) rfl ⟨rfl,?_⟩
   have U:=((av.setCell (p:=⟨w.heap.size+1,0,none⟩) (by simp) (.int .i64 0)).setCell (p:=⟨w.heap.size+1,1,none⟩) (by simp) (.int .i64 0)).setCell (p:=⟨w.heap.size+1,2,none⟩) (by simp) (.int .i64 0)
   exact ⟨U.os,U.tape,U.output,U.size,U.block⟩
end Go.Proofs.YtkkfmkhbdoeglaaGreatDoor
