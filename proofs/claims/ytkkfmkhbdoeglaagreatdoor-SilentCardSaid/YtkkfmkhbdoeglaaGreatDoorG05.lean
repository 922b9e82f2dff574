/- A part of what is proved here: lemmas and contracts of single functions. No condition but those that each names. -/
import Derived.Test.YtkkfmkhbdoeglaaGreatDoorG00
import Derived.Test.YtkkfmkhbdoeglaaGreatDoorG04
set_option maxHeartbeats 2000000
set_option maxRecDepth 100000
namespace Go.Proofs.YtkkfmkhbdoeglaaGreatDoor
open Go.RowKit
theorem F4 (T:Int) (O Q:Nat) (hT:T=0∧O=6∧Q=4∨T=1∧O=5∧Q=4∨T=2∧O=2∧Q=2) (base c r:Nat) (cu:Cu) (x y:UInt8) (d:List K) (w:World) (h:CurAt w base c cu) (hm:gw w r d) (hg:ShapesVar w) (hi:2≤base) (hb:base≤w.heap.size) (cl:c<r)
  (hh:(cu.take 2).2=[x,y]) (hI:(x.toNat:Int)=1) (hy:(y.toNat:Int)=T) (hf:(cu.take 2).1.f=none) :
  Calls Tryz.prog 144 #[.pointer (some ⟨c,0,none⟩),.map (some r)] w fun e w'=>e = .returned (xg ((cu.take 2).1.kW 1 T d O Q).2)∧CurAt w' base c ((cu.take 2).1.kW 1 T d O Q).1∧(((cu.take 2).1.kW 1 T d O Q).1.f=none→gw w' r (d++[(T,((cu.take 2).1.kW 1 T d O Q).2.key)]))∧Ext (fun i=>i=c∨i=r) w w':=by
 rcases hT with ⟨hT,hK,hV⟩ | ⟨hT,hK,hV⟩ | ⟨hT,hK,hV⟩
 all_goals
  rw [hT] at hy
  have HT:=ab hT
  have HK:=ab hK
  have HV:=ab hV
  clear hT hK hV
  have H0:=ab (fA w (.cells #[.int .i64 0,.int .i64 0,.string ⟨#[]⟩,.string ⟨#[]⟩] 96))
  have ed:=h.lt
  have eg:=hm.lt
  have hj:base≤c:=h.2.2.2.1
  have hk:w.heap.size<(w.alloc (.cells #[.int .i64 0,.int .i64 0,.string ⟨#[]⟩,.string ⟨#[]⟩] 96)).heap.size:=by simp
  have ej:gw (w.alloc (.cells #[.int .i64 0,.int .i64 0,.string ⟨#[]⟩,.string ⟨#[]⟩] 96)) r d:=fF.fP hm (heap_alloc_old _ _ eg)
  have el:=hg.alloc (.cells #[.int .i64 0,.int .i64 0,.string ⟨#[]⟩,.string ⟨#[]⟩] 96)
  go_enter Tryz.func144,Tryz.ntmps144
  go_wp2_with fail
  refine (js base c cu 2 _ (h.fP ((Below.refl _ w).alloc (af _) _)) (by simp;omega) (by decide) (by decide)).mono ?_
  rintro e w1 ⟨v,rfl,hD,-,co,W⟩
  rw [hh] at hD
  obtain ⟨a,cap,rfl,d1,a9⟩:=hD.opened
  obtain ⟨b,off,rfl,a2⟩:=a9 0 (by simp)
  obtain ⟨b',fz,he,em⟩:=a9 1 (by simp)
  cases he
  simp only [cx,cg,dS] at a2 em
  have f0:=fE a2
  clear a9 hD
  simp only [ar,aM] at d1
  have F:=W.size
  have A1:=ab (carry W H0.out (by omega))
  have f4:=co.lt
  have en:gw w1 r d:=fF.fP ej (W.block r (by simp;omega) (fun e=>by cases e;omega))
  have ba:=el.grown W (by omega)
  have hl:=ba.two
  go_wp2
  go_region
  go_wp2_with fail
  refine (ig base c _ _ 6 _ (co.fP (((Below.refl _ w1).alloc (af _) _).drew)) (by simp at F⊢;omega)).mono ?_
  rintro e w2 ⟨rfl,bb,G⟩
  have B2:=ab (carry G (fA w1 _) (by omega))
  have A2:=ab (carry G (fG w1 _ A1.out) (by omega))
  have cp:gw w2 r d:=fF.fP en ((G.block r (by simp at F⊢;omega) (fun e=>by cases e;omega)).trans (heap_alloc_old w1 _ (by simp at F;omega)))
  have er:=(ba.new (((Below.refl _ w1).alloc (af _) _).drew)).grown G (by omega)
  have q0:w2.cell? ⟨w1.heap.size,0,none⟩=some _:=ae _ _ 0 _ _ _ B2.out
  have X:w2.cell? ⟨w1.heap.size,1,none⟩=some _:=ae _ _ 1 _ _ _ B2.out
  have f6:=fw B2.out
  have bc:=G.size
  simp only [Cu.mq] at bb
  go_wp2_with fail
  refine (ig base c _ _ 6 _ bb (by simp at F bc⊢;omega)).mono ?_
  rintro e w3 ⟨rfl,R,I⟩
  have eD:=I.size
  have B3:=ab (carry I B2.out (by omega))
  have A3:=ab (carry I A2.out (by omega))
  have cq:gw w3 r d:=fF.fP cp (I.block r cp.lt (fun e=>by cases e;omega))
  have Y:=er.grown I (by omega)
  simp only [Cu.mq] at R
  clear q0 X
  have X:w3.cell? ⟨w1.heap.size,1,none⟩=some _:=ae _ _ 1 _ _ _ B3.out
  have k3:=R.jA hf
  have f9:=R.lt
  have ga:=fw B3.out
  have z0:=Y.c0
  have z2:=Y.c2
  have z4:=Y.c4
  have z:=Y.two
  go_wp2_with fail
  have TK:=js base c _ O _ R (by simp at F bc eD⊢;omega) (by rw [HK.out];decide) (by rw [HK.out];decide)
  rw [HK.out] at TK
  refine TK.mono ?_
  clear TK
  rintro e Z ⟨v4,rfl,bd,-,d3,J⟩
  obtain ⟨j,bi,bd⟩:=bd.name
  have bk:=ab bi
  have hn:j.length≤6:=by rw [bi,Cu.take_length];decide
  clear bi z0 z2 z4 z X k3
  have ho:=J.size
  have B4:=ab (carry J B3.out (by omega))
  have A4:=ab (carry J A3.out (by omega))
  have cr:gw Z r d:=fF.fP cq (J.block r cq.lt (fun e=>by cases e;omega))
  have d4:=Y.grown J (by omega)
  have q0:Z.cell? ⟨w1.heap.size,0,none⟩=some _:=ae _ _ 0 _ _ _ B4.out
  have X:Z.cell? ⟨w1.heap.size,1,none⟩=some _:=ae _ _ 1 _ _ _ B4.out
  have q2:Z.cell? ⟨w1.heap.size,2,none⟩=some _:=ae _ _ 2 _ _ _ B4.out
  have f2:=aj _ _ 2 _ _ B4.out
  have gc:=fw B4.out
  go_wp2_with (refine gx rfl (.tmp 48) rfl j bd ?_)
  have ge:w.heap.size+1≤w1.heap.size:=by simpa using F
  have gf:w1.heap.size+1≤w2.heap.size:=by simpa using bc
  have G4:=grownBy_set (Below.refl _ Z) 2 (.string ⟨j.toArray⟩) (c:=w1.heap.size)
  have B5:=ab (heap_setCell Z w1.heap.size 2 (.string ⟨j.toArray⟩) B4.out)
  have A5:=ab (carry G4 A4.out (by omega))
  have d5:=d3.grown G4 (by omega) (fun k n=>by rw [B4.out];simp)
  have cs:gw (Z.setCell ⟨w1.heap.size,2,none⟩ (.string ⟨j.toArray⟩)) r d:=fF.fP cr (G4.block r cr.lt (fun e=>by cases e;omega))
  have ct:=d4.grown G4 (by omega)
  refine (nN _ j _ ct (by decide) (by decide) (by unfold fX;omega)).mono ?_
  rintro e w6 ⟨rfl,D⟩
  have hp:Z.heap.size≤w6.heap.size:=by simpa using D.size
  have B6:=ab (fy D (fw B5.out) B5.out)
  have A6:=ab (fy D (fw A5.out) A5.out)
  have d6:=d5.fP D
  have cv:gw w6 r d:=fF.fP cs (D.block r cs.lt)
  have e1:=ct.new D
  clear q0 X q2 f2
  go_wp2_with fail
  refine (ig base c _ _ 7 _ d6 (by omega)).mono ?_
  rintro e w7 ⟨rfl,bo,M⟩
  have hr:=M.size
  have B7:=ab (carry M B6.out (by omega))
  have A7:=ab (carry M A6.out (by omega))
  have br:gw w7 r d:=fF.fP cv (M.block r cv.lt (fun e=>by cases e;omega))
  have e2:=e1.grown M (by omega)
  have hzero:∀ u:World,(zeroValue 3).run Tryz.prog u = .ok (.int .i64 0) u:=fun u=>by kernel_rfl
  obtain ⟨W1,st,hE,bs,aa,hs,cB⟩:=fF.entry br (mt:=242) (e:=3) (z := .int .i64 0) Tryz.underlying242 hzero (T,j)
  have L0:=fun n=>fF.lookup (w:=w7.drewN n) (fF.fP br rfl) (mt:=242) (e:=3) (z := .int .i64 0) Tryz.underlying242 (hzero _) (T,j)
  have L1:=fun n=>fF.lookup (w:=W1.drewN n) (fF.fP bs rfl) (mt:=242) (e:=3) (z := .int .i64 0) Tryz.underlying242 (hzero _) (T,j)
  rw [kU] at L1
  obtain ⟨cnt,S⟩:∃ cnt:Int,cnt=if d.contains (T,j) then 1 else 0:=⟨_,rfl⟩
  have c6:(mu (T,j) (d.map fun k=>(k,(Value.int .i64 1)))).getD (.int .i64 0) = .int .i64 cnt:=by rw [S];exact qO _ _
  obtain ⟨W2,a3,bv,ak,ht⟩:=cB (.int .i64 (cnt+1))
  have L2:=fun n=>fF.lookup (w:=W2.drewN n) (fF.fP bv rfl) (mt:=242) (e:=3) (z := .int .i64 0) Tryz.underlying242 (hzero _) (T,j)
  rw [kU] at L2
  simp only [c6,bF] at hE a3 L0 L1 L2
  simp only [kV,iD,goInt,HT.out] at hE a3 L0 L1 L2
  have c7:=ab bv
  have e3:=ab bs
  clear bs bv cB c6 hzero
  have hu:0≤cnt∧cnt≤1:=by rw [S];split <;> omega
  have bx:=ab S
  clear S
  have b1:w7.cell? ⟨w1.heap.size,1,none⟩=some _:=ae _ _ 1 _ _ _ B7.out
  have b2:w7.cell? ⟨w1.heap.size,2,none⟩=some _:=ae _ _ 2 _ _ _ B7.out
  have X1:=ab (carry aa B7.out (by omega))
  have X2:=ab (carry ak X1.out (by omega))
  have b3:W1.cell? ⟨w1.heap.size,1,none⟩=some _:=ae _ _ 1 _ _ _ X1.out
  have b4:W1.cell? ⟨w1.heap.size,2,none⟩=some _:=ae _ _ 2 _ _ _ X1.out
  have hH:W2.cell? ⟨w1.heap.size,1,none⟩=some _:=ae _ _ 1 _ _ _ X2.out
  have b6:W2.cell? ⟨w1.heap.size,2,none⟩=some _:=ae _ _ 2 _ _ _ X2.out
  have b5:=fw X2.out
  have c8:=L0 1
  have c9:=L1 1
  have da:=L2 1
  have dc:=hE 1
  have bz:=a3 1
  have a4:∀ w:World,w.drewN 1=w.drew:=fun _=>rfl
  rw [a4] at c8 c9 da
  rw [a4,a4] at dc bz
  clear L0 L1 L2 hE a3 a4
  have d8:=fw X1.out
  have d9:=fw B7.out
  go_wp2
  go_region
  go_wp2_with fail
  have bD:=(bo.grown aa cl br.jA).grown ak cl e3.out.jA
  have hv:w7.heap.size=W2.heap.size:=by omega
  rw [show (cnt+1==1) = !(d.contains (T,j)) by rw [bx.out];cases d.contains (T,j) <;> rfl,HT.out]
  refine (ig base c _ _ 8 W2.drew (bD.fP ((Below.refl _ W2).drew)) (by simp;omega)).mono ?_
  rintro e w9 ⟨rfl,eb,q⟩
  have N:W2.grownBy w9 (some c):=⟨q.os,q.tape,q.output,q.size,q.block⟩
  clear q
  have hw:W2.heap.size≤w9.heap.size:=N.size
  have B9:=ab (carry N X2.out (by omega))
  have A8:=ab (carry aa A7.out (by omega))
  have e4:=ab (carry ak A8.out (by omega))
  have A9:=ab (carry N e4.out (by omega))
  have dk:=fF.fP (w':=w9) c7.out (N.block r c7.out.lt (fun e=>by cases e;omega))
  have al:=((e2.grown aa (by omega)).grown ak (by omega)).grown N (by omega)
  clear b1 b2 b3 b4 hH b6 c8 c9 da dc bz bo bD d9 d8 b5
  have m0:w9.cell? ⟨w1.heap.size,0,none⟩=some _:=ae _ _ 0 _ _ _ B9.out
  have m1:w9.cell? ⟨w1.heap.size,1,none⟩=some _:=ae _ _ 1 _ _ _ B9.out
  have fg:=fw B9.out
  have y1:=al.c1
  have y3:=al.c3
  have y5:=al.c5
  have yz:=al.two
  go_wp2_with fail
  have TK:=js base c _ Q _ eb (by omega) (by rw [HV.out];decide) (by rw [HV.out];decide)
  rw [HV.out] at TK
  refine TK.mono ?_
  clear TK
  rintro e o ⟨v10,rfl,a1,-,b7,s⟩
  obtain ⟨U,bI,a1⟩:=a1.name
  have dl:=ab bI
  have hx:U.length≤4:=by rw [bI,Cu.take_length];decide
  clear bI y1 y3 y5 yz m0 m1
  have g4:=s.size
  have C:=ab (carry s B9.out (by omega))
  have e5:=ab (carry s A9.out (by omega))
  have bL:=fF.fP (w':=o) dk (s.block r dk.lt (fun e=>by cases e;omega))
  have b8:=al.grown s (by omega)
  have q0:o.cell? ⟨w1.heap.size,0,none⟩=some _:=ae _ _ 0 _ _ _ C.out
  have X:o.cell? ⟨w1.heap.size,1,none⟩=some _:=ae _ _ 1 _ _ _ C.out
  have q2:o.cell? ⟨w1.heap.size,2,none⟩=some _:=ae _ _ 2 _ _ _ C.out
  have q3:o.cell? ⟨w1.heap.size,3,none⟩=some _:=ae _ _ 3 _ _ _ C.out
  have f3:=aj _ _ 3 _ _ C.out
  have fi:=fw C.out
  go_wp2_with (refine gx rfl (.tmp 81) rfl U a1 ?_)
  have am:=grownBy_set (Below.refl _ o) 3 (.string ⟨U.toArray⟩) (c:=w1.heap.size)
  have dn:=ab (heap_setCell o w1.heap.size 3 (.string ⟨U.toArray⟩) C.out)
  have dp:=ab (carry am e5.out (by omega))
  have ca:=b7.grown am (by omega) (fun k n=>by rw [C.out];simp)
  have bM:=fF.fP (w':=o.setCell ⟨w1.heap.size,3,none⟩ (.string ⟨U.toArray⟩)) bL (am.block r bL.lt (fun e=>by cases e;omega))
  have ec:=b8.grown am (by omega)
  refine (pC _ U _ ec (by decide) (by decide) (by unfold fX;omega)).mono ?_
  rintro e ds ⟨rfl,B⟩
  have g5:o.heap.size≤ds.heap.size:=by simpa using B.size
  have e7:=ab (fy B (fw dn.out) dn.out)
  have e8:=ab (fy B (fw dp.out) dp.out)
  have cb:=ca.fP B
  have bN:=fF.fP (w':=ds) bM (B.block r bM.lt)
  clear q0 X q2 q3 f3
  go_wp2_with fail
  refine (ig base c _ _ 9 _ cb (by omega)).mono ?_
  rintro e l ⟨rfl,ce,E⟩
  have g6:=E.size
  have ap:=ab (carry E e7.out (by omega))
  have m:=ab (carry E e8.out (by omega))
  have bO:=fF.fP (w':=l) bN (E.block r bN.lt (fun e=>by cases e;omega))
  have q0:l.cell? ⟨w1.heap.size,0,none⟩=some _:=ae _ _ 0 _ _ _ ap.out
  have X:l.cell? ⟨w1.heap.size,1,none⟩=some _:=ae _ _ 1 _ _ _ ap.out
  have q2:l.cell? ⟨w1.heap.size,2,none⟩=some _:=ae _ _ 2 _ _ _ ap.out
  have q3:l.cell? ⟨w1.heap.size,3,none⟩=some _:=ae _ _ 3 _ _ _ ap.out
  have p0:l.cell? ⟨w.heap.size,0,none⟩=some _:=ae _ _ 0 _ _ _ m.out
  have p1:l.cell? ⟨w.heap.size,1,none⟩=some _:=ae _ _ 1 _ _ _ m.out
  have p2:l.cell? ⟨w.heap.size,2,none⟩=some _:=ae _ _ 2 _ _ _ m.out
  have p3:l.cell? ⟨w.heap.size,3,none⟩=some _:=ae _ _ 3 _ _ _ m.out
  have e0:=aj _ _ 0 _ _ m.out
  have hG:=aj _ _ 1 _ _ m.out
  have hJ:=aj _ _ 2 _ _ m.out
  have hL:=aj _ _ 3 _ _ m.out
  have fk:=fw ap.out
  have fl:=fw m.out
  go_wp2
  have hR:((cu.take 2).1.kW 1 T d O Q).2=⟨1,T,j,U⟩:=by
   rw [dl.out,bk.out,HT.out,HK.out,HV.out]
   rfl
  have GL:=fY (fY (fY (grownBy_set (Below.refl _ l) 0 (.int .i64 1) (c:=w.heap.size)) 1 (.int .i64 T)) 2 (.string ⟨j.toArray⟩)) 3 (.string ⟨U.toArray⟩)
  rw [HT.out] at GL
  refine aI (v:=xg ⟨1,T,j,U⟩) (by simp [results,Tryz.results144,go_sem,xg,HT.out,p0,p1,p2,p3]) rfl ⟨by rw [hR],?_,fun fd => ?_,?_⟩
  ·have:=ce.grown GL ed (fun k n=>by rw [m.out];simp)
   exact this.eq (by rw [dl.out,bk.out,HT.out,HK.out,HV.out];rfl)
  ·have V:=sr fd
   rw [HK.out] at V
   rw [←bk.out] at V
   have a2:cnt=0:=by rw [bx.out,V];rfl
   have dv:=fF.fP bO (GL.block r bO.lt (fun e=>by cases e;omega))
   rw [a2] at dv
   rw [hR]
   have hG:=pF (T,j) d V
   unfold gw
   rw [←hG]
   exact dv
  ·have x1:=((Ext.refl (fun i=>i=c∨i=r) w).alloc _).grow W (.inl (.inl rfl))
   have x2:=(x1.sK (((Below.refl _ w1).alloc (af _) _).drew)).grow G (.inl (.inl rfl))
   have x3:=(((x2.grow I (.inl (.inl rfl))).grow J (.inl (.inl rfl))).grow G4 (.inr (by omega))).sK D
   have x4:=(((x3.grow M (.inl (.inl rfl))).grow aa (.inl (.inr rfl))).grow ak (.inl (.inr rfl))).grow N (.inl (.inl rfl))
   exact (((((x4.grow s (.inl (.inl rfl))).grow am (.inr (by omega))).sK B).grow E (.inl (.inl rfl)))).grow GL (.inr (af _))
end Go.Proofs.YtkkfmkhbdoeglaaGreatDoor
