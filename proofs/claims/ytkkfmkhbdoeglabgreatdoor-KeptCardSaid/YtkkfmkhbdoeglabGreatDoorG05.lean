/- A part of what is proved here: lemmas and contracts of single functions. No condition but those that each names. -/
import Derived.Test.YtkkfmkhbdoeglabGreatDoorG00
import Derived.Test.YtkkfmkhbdoeglabGreatDoorG03
set_option maxHeartbeats 2000000
set_option maxRecDepth 100000
namespace Go.Proofs.YtkkfmkhbdoeglabGreatDoor
open Go.RowKit
theorem IQ (T:Int) (G N:Nat) (W:T=0∧G=6∧N=4∨T=1∧G=5∧N=4∨T=2∧G=2∧N=2) (base c r:Nat) (cu:Cu) (x y:UInt8) (d:List K) (w:World) (h:CurAt w base c cu) (hm:gQ w r d) (hg:ShapesVar w) (fi:2≤base) (hb:base≤w.heap.size) (bD:c<r)
  (hh:(cu.take 2).2=[x,y]) (hx:(x.toNat:Int)=2) (hy:(y.toNat:Int)=T) (hf:(cu.take 2).1.f=none) :
  Calls Tryz.prog 187 #[.pointer (some ⟨c,0,none⟩),.map (some r)] w fun e w'=>e = .returned (zu ((cu.take 2).1.me 2 T d G N).2)∧CurAt w' base c ((cu.take 2).1.me 2 T d G N).1∧(((cu.take 2).1.me 2 T d G N).1.f=none→gQ w' r (d++[(T,((cu.take 2).1.me 2 T d G N).2.key)]))∧Ext (fun i=>i=c∨i=r) w w':=by
 rcases W with ⟨W,hK,hV⟩ | ⟨W,hK,hV⟩ | ⟨W,hK,hV⟩
 all_goals
  rw [W] at hy
  have HT:=ab W
  have HK:=ab hK
  have HV:=ab hV
  clear W hK hV
  have H0:=ab (fR w (.cells #[.int .i64 0,.int .i64 0,.string ⟨#[]⟩,.string ⟨#[]⟩] 105))
  have ct:=h.lt
  have cv:=hm.lt
  have fk:base≤c:=h.2.2.2.1
  have fl:w.heap.size<(w.alloc (.cells #[.int .i64 0,.int .i64 0,.string ⟨#[]⟩,.string ⟨#[]⟩] 105)).heap.size:=by simp
  have cB:gQ (w.alloc (.cells #[.int .i64 0,.int .i64 0,.string ⟨#[]⟩,.string ⟨#[]⟩] 105)) r d:=fY.gr hm (heap_alloc_old _ _ cv)
  have c1:=hg.alloc (.cells #[.int .i64 0,.int .i64 0,.string ⟨#[]⟩,.string ⟨#[]⟩] 105)
  go_enter Tryz.func187,Tryz.ntmps187
  go_wp2_with fail
  refine (jU base c cu 2 _ (h.gr ((Below.refl _ w).alloc (af _) _)) (by simp;omega) (by decide) (by decide)).mono ?_
  rintro e w1 ⟨v,rfl,hv,-,bH,O⟩
  rw [hh] at hv
  obtain ⟨a,cap,rfl,b8,am⟩:=hv.opened
  obtain ⟨b,off,rfl,Y⟩:=am 0 (by simp)
  obtain ⟨b',d7,he,c3⟩:=am 1 (by simp)
  cases he
  simp only [cz,cj,ee] at Y c3
  have d8:=fU Y
  clear am hv
  simp only [ar,aJ] at b8
  have s:=O.size
  have A1:=ab (carry O H0.out (by omega))
  have ea:=bH.lt
  have c5:gQ w1 r d:=fY.gr cB (O.block r (by simp;omega) (fun e=>by cases e;omega))
  have ap:=c1.grown O (by omega)
  have fn:=ap.two
  go_wp2
  go_region
  go_wp2_with fail
  refine (iO base c _ _ 6 _ (bH.gr (((Below.refl _ w1).alloc (af _) _).drew)) (by simp at s⊢;omega)).mono ?_
  rintro e w2 ⟨rfl,av,B⟩
  have B2:=ab (carry B (fR w1 _) (by omega))
  have A2:=ab (carry B (fX w1 _ A1.out) (by omega))
  have bI:gQ w2 r d:=fY.gr c5 ((B.block r (by simp at s⊢;omega) (fun e=>by cases e;omega)).trans (heap_alloc_old w1 _ (by simp at s;omega)))
  have c6:=(ap.new (((Below.refl _ w1).alloc (af _) _).drew)).grown B (by omega)
  have q0:w2.cell? ⟨w1.heap.size,0,none⟩=some _:=ae _ _ 0 _ _ _ B2.out
  have q1:w2.cell? ⟨w1.heap.size,1,none⟩=some _:=ae _ _ 1 _ _ _ B2.out
  have ec:=fO B2.out
  have aE:=B.size
  simp only [Cu.nH] at av
  go_wp2_with fail
  refine (iO base c _ _ 6 _ av (by simp at s aE⊢;omega)).mono ?_
  rintro e w3 ⟨rfl,I,C⟩
  have c7:=C.size
  have B3:=ab (carry C B2.out (by omega))
  have A3:=ab (carry C A2.out (by omega))
  have bL:gQ w3 r d:=fY.gr bI (C.block r bI.lt (fun e=>by cases e;omega))
  have Q:=c6.grown C (by omega)
  simp only [Cu.nH] at I
  clear q0 q1
  have q1:w3.cell? ⟨w1.heap.size,1,none⟩=some _:=ae _ _ 1 _ _ _ B3.out
  have k3:=I.j4 hf
  have ej:=I.lt
  have el:=fO B3.out
  have z0:=Q.c0
  have z2:=Q.c2
  have z4:=Q.c4
  have z:=Q.two
  go_wp2_with fail
  have TK:=jU base c _ G _ I (by simp at s aE c7⊢;omega) (by rw [HK.out];decide) (by rw [HK.out];decide)
  rw [HK.out] at TK
  refine TK.mono ?_
  clear TK
  rintro e R ⟨v4,rfl,a0,-,ce,D⟩
  obtain ⟨j,a1,a0⟩:=a0.name
  have a2:=ab a1
  have fo:j.length≤6:=by rw [a1,Cu.take_length];decide
  clear a1 z0 z2 z4 z q1 k3
  have fp:=D.size
  have X:=ab (carry D B3.out (by omega))
  have A4:=ab (carry D A3.out (by omega))
  have bM:gQ R r d:=fY.gr bL (D.block r bL.lt (fun e=>by cases e;omega))
  have ci:=Q.grown D (by omega)
  have q0:R.cell? ⟨w1.heap.size,0,none⟩=some _:=ae _ _ 0 _ _ _ X.out
  have q1:R.cell? ⟨w1.heap.size,1,none⟩=some _:=ae _ _ 1 _ _ _ X.out
  have q2:R.cell? ⟨w1.heap.size,2,none⟩=some _:=ae _ _ 2 _ _ _ X.out
  have f2:=aj _ _ 2 _ _ X.out
  have en:=fO X.out
  go_wp2_with (refine gR rfl (.tmp 48) rfl j a0 ?_)
  have er:w.heap.size+1≤w1.heap.size:=by simpa using s
  have eC:w1.heap.size+1≤w2.heap.size:=by simpa using aE
  have G4:=grownBy_set (Below.refl _ R) 2 (.string ⟨j.toArray⟩) (c:=w1.heap.size)
  have B5:=ab (heap_setCell R w1.heap.size 2 (.string ⟨j.toArray⟩) X.out)
  have A5:=ab (carry G4 A4.out (by omega))
  have cl:=ce.grown G4 (by omega) (fun k n=>by rw [X.out];simp)
  have bN:gQ (R.setCell ⟨w1.heap.size,2,none⟩ (.string ⟨j.toArray⟩)) r d:=fY.gr bM (G4.block r bM.lt (fun e=>by cases e;omega))
  have bO:=ci.grown G4 (by omega)
  refine (oV _ j _ bO (by decide) (by decide) (by unfold gF;omega)).mono ?_
  rintro e w6 ⟨rfl,o⟩
  have fr:R.heap.size≤w6.heap.size:=by simpa using o.size
  have B6:=ab (fQ o (fO B5.out) B5.out)
  have A6:=ab (fQ o (fO A5.out) A5.out)
  have co:=cl.gr o
  have bP:gQ w6 r d:=fY.gr bN (o.block r bN.lt)
  have dk:=bO.new o
  clear q0 q1 q2 f2
  go_wp2_with fail
  refine (iO base c _ _ 7 _ co (by omega)).mono ?_
  rintro e w7 ⟨rfl,a5,E⟩
  have fv:=E.size
  have B7:=ab (carry E B6.out (by omega))
  have A7:=ab (carry E A6.out (by omega))
  have a6:gQ w7 r d:=fY.gr bP (E.block r bP.lt (fun e=>by cases e;omega))
  have dl:=dk.grown E (by omega)
  have hzero:∀ u:World,(zeroValue 3).run Tryz.prog u = .ok (.int .i64 0) u:=fun u=>by kernel_rfl
  obtain ⟨W1,st,hE,a7,S,fz,bS⟩:=fY.entry a6 (mt:=271) (e:=3) (z := .int .i64 0) Tryz.underlying271 hzero (T,j)
  have L0:=fun n=>fY.lookup (w:=w7.drewN n) (fY.gr a6 rfl) (mt:=271) (e:=3) (z := .int .i64 0) Tryz.underlying271 (hzero _) (T,j)
  have L1:=fun n=>fY.lookup (w:=W1.drewN n) (fY.gr a7 rfl) (mt:=271) (e:=3) (z := .int .i64 0) Tryz.underlying271 (hzero _) (T,j)
  rw [lV] at L1
  obtain ⟨cnt,J⟩:∃ cnt:Int,cnt=if d.contains (T,j) then 1 else 0:=⟨_,rfl⟩
  have bX:(nE (T,j) (d.map fun k=>(k,(Value.int .i64 1)))).getD (.int .i64 0) = .int .i64 cnt:=by rw [J];exact sp _ _
  obtain ⟨U,Z,ba,V,fB⟩:=bS (.int .i64 (cnt+1))
  have L2:=fun n=>fY.lookup (w:=U.drewN n) (fY.gr ba rfl) (mt:=271) (e:=3) (z := .int .i64 0) Tryz.underlying271 (hzero _) (T,j)
  rw [lV] at L2
  simp only [bX,bR] at hE Z L0 L1 L2
  simp only [kV,jh,goInt,HT.out] at hE Z L0 L1 L2
  have b0:=ab ba
  have dn:=ab a7
  clear a7 ba bS bX hzero
  have f0:0≤cnt∧cnt≤1:=by rw [J];split <;> omega
  have bc:=ab J
  clear J
  have gb:w7.cell? ⟨w1.heap.size,1,none⟩=some _:=ae _ _ 1 _ _ _ B7.out
  have gc:w7.cell? ⟨w1.heap.size,2,none⟩=some _:=ae _ _ 2 _ _ _ B7.out
  have X1:=ab (carry S B7.out (by omega))
  have X2:=ab (carry V X1.out (by omega))
  have ge:W1.cell? ⟨w1.heap.size,1,none⟩=some _:=ae _ _ 1 _ _ _ X1.out
  have gf:W1.cell? ⟨w1.heap.size,2,none⟩=some _:=ae _ _ 2 _ _ _ X1.out
  have gg:U.cell? ⟨w1.heap.size,1,none⟩=some _:=ae _ _ 1 _ _ _ X2.out
  have gl:U.cell? ⟨w1.heap.size,2,none⟩=some _:=ae _ _ 2 _ _ _ X2.out
  have bx:=fO X2.out
  have b1:=L0 1
  have b2:=L1 1
  have b3:=L2 1
  have b4:=hE 1
  have be:=Z 1
  have aa:∀ w:World,w.drewN 1=w.drew:=fun _=>rfl
  rw [aa] at b1 b2 b3
  rw [aa,aa] at b4 be
  clear L0 L1 L2 hE Z aa
  have cq:=fO X1.out
  have cr:=fO B7.out
  go_wp2
  go_region
  go_wp2_with fail
  have bi:=(a5.grown S bD a6.j4).grown V bD dn.out.j4
  have f1:w7.heap.size=U.heap.size:=by omega
  rw [show (cnt+1==1) = !(d.contains (T,j)) by rw [bc.out];cases d.contains (T,j) <;> rfl,HT.out]
  refine (iO base c _ _ 8 U.drew (bi.gr ((Below.refl _ U).drew)) (by simp;omega)).mono ?_
  rintro e m ⟨rfl,cs,l⟩
  have F:U.grownBy m (some c):=⟨l.os,l.tape,l.output,l.size,l.block⟩
  clear l
  have f3:U.heap.size≤m.heap.size:=F.size
  have B9:=ab (carry F X2.out (by omega))
  have A8:=ab (carry S A7.out (by omega))
  have dp:=ab (carry V A8.out (by omega))
  have q:=ab (carry F dp.out (by omega))
  have b5:=fY.gr (w':=m) b0.out (F.block r b0.out.lt (fun e=>by cases e;omega))
  have f4:=((dl.grown S (by omega)).grown V (by omega)).grown F (by omega)
  clear gb gc ge gf gg gl b1 b2 b3 b4 be a5 bi cr cq bx
  have q0:m.cell? ⟨w1.heap.size,0,none⟩=some _:=ae _ _ 0 _ _ _ B9.out
  have q1:m.cell? ⟨w1.heap.size,1,none⟩=some _:=ae _ _ 1 _ _ _ B9.out
  have q2:m.cell? ⟨w1.heap.size,2,none⟩=some _:=ae _ _ 2 _ _ _ B9.out
  have q3:m.cell? ⟨w1.heap.size,3,none⟩=some _:=ae _ _ 3 _ _ _ B9.out
  have p0:m.cell? ⟨w.heap.size,0,none⟩=some _:=ae _ _ 0 _ _ _ q.out
  have p1:m.cell? ⟨w.heap.size,1,none⟩=some _:=ae _ _ 1 _ _ _ q.out
  have p2:m.cell? ⟨w.heap.size,2,none⟩=some _:=ae _ _ 2 _ _ _ q.out
  have p3:m.cell? ⟨w.heap.size,3,none⟩=some _:=ae _ _ 3 _ _ _ q.out
  have e0:=aj _ _ 0 _ _ q.out
  have e1:=aj _ _ 1 _ _ q.out
  have e2:=aj _ _ 2 _ _ q.out
  have e3:=aj _ _ 3 _ _ q.out
  have d0:=fO B9.out
  have d1:=fO q.out
  go_wp2
  have hR:((cu.take 2).1.me 2 T d G N).2=⟨2,T,j,[]⟩:=by
   rw [a2.out,HT.out,HK.out]
   rfl
  have GL:=gG (gG (gG (grownBy_set (Below.refl _ m) 0 (.int .i64 2) (c:=w.heap.size)) 1 (.int .i64 T)) 2 (.string ⟨j.toArray⟩)) 3 (.string ⟨#[]⟩)
  rw [HT.out] at GL
  refine aI (v:=zu ⟨2,T,j,[]⟩) (by simp [results,Tryz.results187,go_sem,zu,HT.out,p0,p1,p2,p3]) rfl ⟨by rw [hR],?_,fun dT => ?_,?_⟩
  ·have:=cs.grown GL ct (fun k n=>by rw [q.out];simp)
   exact this.eq (by rw [a2.out,HT.out,HK.out];rfl)
  ·have M:=uv dT
   rw [HK.out] at M
   rw [←a2.out] at M
   have Y:cnt=0:=by rw [bc.out,M];rfl
   have b6:=fY.gr b5 (GL.block r b5.lt (fun e=>by cases e;omega))
   rw [Y] at b6
   rw [hR]
   have e1:=qU (T,j) d M
   unfold gQ
   rw [←e1]
   exact b6
  ·have x1:=((Ext.refl (fun i=>i=c∨i=r) w).alloc _).grow O (.inl (.inl rfl))
   have x2:=(x1.rT (((Below.refl _ w1).alloc (af _) _).drew)).grow B (.inl (.inl rfl))
   have x3:=(((x2.grow C (.inl (.inl rfl))).grow D (.inl (.inl rfl))).grow G4 (.inr (by omega))).rT o
   have x4:=(((x3.grow E (.inl (.inl rfl))).grow S (.inl (.inr rfl))).grow V (.inl (.inr rfl))).grow F (.inl (.inl rfl))
   exact x4.grow GL (.inr (af _))
end Go.Proofs.YtkkfmkhbdoeglabGreatDoor
