/- A part of what is proved here: lemmas and contracts of single functions. No condition but those that each names. -/
import Derived.Test.YtkkfmkhbdoeglabGreatDoorG00
import Derived.Test.YtkkfmkhbdoeglabGreatDoorG03
set_option maxHeartbeats 2000000
set_option maxRecDepth 100000
namespace Go.Proofs.YtkkfmkhbdoeglabGreatDoor
open Go.RowKit
theorem IP (T:Int) (O Q:Nat) (hT:T=0∧O=6∧Q=4∨T=1∧O=5∧Q=4∨T=2∧O=2∧Q=2) (base c r:Nat) (cu:Cu) (x y:UInt8) (d:List K) (w:World) (h:CurAt w base c cu) (hm:gQ w r d) (hA:ShapesVar w) (g9:2≤base) (hG:base≤w.heap.size) (cl:c<r)
  (hB:(cu.take 2).2=[x,y]) (hx:(x.toNat:Int)=1) (hy:(y.toNat:Int)=T) (hC:(cu.take 2).1.f=none) :
  Calls Tryz.prog 187 #[.pointer (some ⟨c,0,none⟩),.map (some r)] w fun e w'=>e = .returned (zu ((cu.take 2).1.me 1 T d O Q).2)∧CurAt w' base c ((cu.take 2).1.me 1 T d O Q).1∧(((cu.take 2).1.me 1 T d O Q).1.f=none→gQ w' r (d++[(T,((cu.take 2).1.me 1 T d O Q).2.key)]))∧Ext (fun i=>i=c∨i=r) w w':=by
 rcases hT with ⟨hT,hK,hV⟩ | ⟨hT,hK,hV⟩ | ⟨hT,hK,hV⟩
 all_goals
  rw [hT] at hy
  have HT:=ab hT
  have HK:=ab hK
  have HV:=ab hV
  clear hT hK hV
  have H0:=ab (fR w (.cells #[.int .i64 0,.int .i64 0,.string ⟨#[]⟩,.string ⟨#[]⟩] 105))
  have eb:=h.lt
  have ec:=hm.lt
  have hb:base≤c:=h.2.2.2.1
  have hd:w.heap.size<(w.alloc (.cells #[.int .i64 0,.int .i64 0,.string ⟨#[]⟩,.string ⟨#[]⟩] 105)).heap.size:=by simp
  have ed:gQ (w.alloc (.cells #[.int .i64 0,.int .i64 0,.string ⟨#[]⟩,.string ⟨#[]⟩] 105)) r d:=fY.gr hm (heap_alloc_old _ _ ec)
  have eg:=hA.alloc (.cells #[.int .i64 0,.int .i64 0,.string ⟨#[]⟩,.string ⟨#[]⟩] 105)
  go_enter Tryz.func187,Tryz.ntmps187
  go_wp2_with fail
  refine (jU base c cu 2 _ (h.gr ((Below.refl _ w).alloc (af _) _)) (by simp;omega) (by decide) (by decide)).mono ?_
  rintro e w1 ⟨v,rfl,hv,-,co,W⟩
  rw [hB] at hv
  obtain ⟨a,cap,rfl,d0,a9⟩:=hv.opened
  obtain ⟨b,off,rfl,a2⟩:=a9 0 (by simp)
  obtain ⟨b',fn,he,ej⟩:=a9 1 (by simp)
  cases he
  simp only [cz,cj,ee] at a2 ej
  have fo:=fU a2
  clear a9 hv
  simp only [ar,aJ] at d0
  have F:=W.size
  have A1:=ab (carry W H0.out (by omega))
  have fr:=co.lt
  have el:gQ w1 r d:=fY.gr ed (W.block r (by simp;omega) (fun e=>by cases e;omega))
  have ba:=eg.grown W (by omega)
  have hf:=ba.two
  go_wp2
  go_region
  go_wp2_with fail
  refine (iO base c _ _ 6 _ (co.gr (((Below.refl _ w1).alloc (af _) _).drew)) (by simp at F⊢;omega)).mono ?_
  rintro e w2 ⟨rfl,bb,G⟩
  have B2:=ab (carry G (fR w1 _) (by omega))
  have A2:=ab (carry G (fX w1 _ A1.out) (by omega))
  have cp:gQ w2 r d:=fY.gr el ((G.block r (by simp at F⊢;omega) (fun e=>by cases e;omega)).trans (heap_alloc_old w1 _ (by simp at F;omega)))
  have em:=(ba.new (((Below.refl _ w1).alloc (af _) _).drew)).grown G (by omega)
  have q0:w2.cell? ⟨w1.heap.size,0,none⟩=some _:=ae _ _ 0 _ _ _ B2.out
  have X:w2.cell? ⟨w1.heap.size,1,none⟩=some _:=ae _ _ 1 _ _ _ B2.out
  have fz:=fO B2.out
  have bc:=G.size
  simp only [Cu.nH] at bb
  go_wp2_with fail
  refine (iO base c _ _ 6 _ bb (by simp at F bc⊢;omega)).mono ?_
  rintro e w3 ⟨rfl,R,I⟩
  have en:=I.size
  have B3:=ab (carry I B2.out (by omega))
  have A3:=ab (carry I A2.out (by omega))
  have cq:gQ w3 r d:=fY.gr cp (I.block r cp.lt (fun e=>by cases e;omega))
  have Y:=em.grown I (by omega)
  simp only [Cu.nH] at R
  clear q0 X
  have X:w3.cell? ⟨w1.heap.size,1,none⟩=some _:=ae _ _ 1 _ _ _ B3.out
  have k3:=R.j4 hC
  have f1:=R.lt
  have f4:=fO B3.out
  have z0:=Y.c0
  have z2:=Y.c2
  have z4:=Y.c4
  have z:=Y.two
  go_wp2_with fail
  have TK:=jU base c _ O _ R (by simp at F bc en⊢;omega) (by rw [HK.out];decide) (by rw [HK.out];decide)
  rw [HK.out] at TK
  refine TK.mono ?_
  clear TK
  rintro e Z ⟨v4,rfl,be,-,d2,J⟩
  obtain ⟨j,bi,be⟩:=be.name
  have bk:=ab bi
  have hg:j.length≤6:=by rw [bi,Cu.take_length];decide
  clear bi z0 z2 z4 z X k3
  have hh:=J.size
  have B4:=ab (carry J B3.out (by omega))
  have A4:=ab (carry J A3.out (by omega))
  have cr:gQ Z r d:=fY.gr cq (J.block r cq.lt (fun e=>by cases e;omega))
  have d3:=Y.grown J (by omega)
  have q0:Z.cell? ⟨w1.heap.size,0,none⟩=some _:=ae _ _ 0 _ _ _ B4.out
  have X:Z.cell? ⟨w1.heap.size,1,none⟩=some _:=ae _ _ 1 _ _ _ B4.out
  have q2:Z.cell? ⟨w1.heap.size,2,none⟩=some _:=ae _ _ 2 _ _ _ B4.out
  have f2:=aj _ _ 2 _ _ B4.out
  have f6:=fO B4.out
  go_wp2_with (refine gR rfl (.tmp 48) rfl j be ?_)
  have f7:w.heap.size+1≤w1.heap.size:=by simpa using F
  have f8:w1.heap.size+1≤w2.heap.size:=by simpa using bc
  have G4:=grownBy_set (Below.refl _ Z) 2 (.string ⟨j.toArray⟩) (c:=w1.heap.size)
  have B5:=ab (heap_setCell Z w1.heap.size 2 (.string ⟨j.toArray⟩) B4.out)
  have A5:=ab (carry G4 A4.out (by omega))
  have d4:=d2.grown G4 (by omega) (fun k n=>by rw [B4.out];simp)
  have cs:gQ (Z.setCell ⟨w1.heap.size,2,none⟩ (.string ⟨j.toArray⟩)) r d:=fY.gr cr (G4.block r cr.lt (fun e=>by cases e;omega))
  have ct:=d3.grown G4 (by omega)
  refine (oV _ j _ ct (by decide) (by decide) (by unfold gF;omega)).mono ?_
  rintro e w6 ⟨rfl,D⟩
  have hi:Z.heap.size≤w6.heap.size:=by simpa using D.size
  have B6:=ab (fQ D (fO B5.out) B5.out)
  have A6:=ab (fQ D (fO A5.out) A5.out)
  have d5:=d4.gr D
  have cv:gQ w6 r d:=fY.gr cs (D.block r cs.lt)
  have eS:=ct.new D
  clear q0 X q2 f2
  go_wp2_with fail
  refine (iO base c _ _ 7 _ d5 (by omega)).mono ?_
  rintro e w7 ⟨rfl,bo,M⟩
  have hj:=M.size
  have B7:=ab (carry M B6.out (by omega))
  have A7:=ab (carry M A6.out (by omega))
  have br:gQ w7 r d:=fY.gr cv (M.block r cv.lt (fun e=>by cases e;omega))
  have eT:=eS.grown M (by omega)
  have hzero:∀ u:World,(zeroValue 3).run Tryz.prog u = .ok (.int .i64 0) u:=fun u=>by kernel_rfl
  obtain ⟨W1,st,hE,bs,aa,hk,cB⟩:=fY.entry br (mt:=271) (e:=3) (z := .int .i64 0) Tryz.underlying271 hzero (T,j)
  have L0:=fun n=>fY.lookup (w:=w7.drewN n) (fY.gr br rfl) (mt:=271) (e:=3) (z := .int .i64 0) Tryz.underlying271 (hzero _) (T,j)
  have L1:=fun n=>fY.lookup (w:=W1.drewN n) (fY.gr bs rfl) (mt:=271) (e:=3) (z := .int .i64 0) Tryz.underlying271 (hzero _) (T,j)
  rw [lV] at L1
  obtain ⟨cnt,S⟩:∃ cnt:Int,cnt=if d.contains (T,j) then 1 else 0:=⟨_,rfl⟩
  have c6:(nE (T,j) (d.map fun k=>(k,(Value.int .i64 1)))).getD (.int .i64 0) = .int .i64 cnt:=by rw [S];exact sp _ _
  obtain ⟨W2,a3,bv,ak,hl⟩:=cB (.int .i64 (cnt+1))
  have L2:=fun n=>fY.lookup (w:=W2.drewN n) (fY.gr bv rfl) (mt:=271) (e:=3) (z := .int .i64 0) Tryz.underlying271 (hzero _) (T,j)
  rw [lV] at L2
  simp only [c6,bR] at hE a3 L0 L1 L2
  simp only [kV,jh,goInt,HT.out] at hE a3 L0 L1 L2
  have c7:=ab bv
  have eV:=ab bs
  clear bs bv cB c6 hzero
  have hn:0≤cnt∧cnt≤1:=by rw [S];split <;> omega
  have bx:=ab S
  clear S
  have b1:w7.cell? ⟨w1.heap.size,1,none⟩=some _:=ae _ _ 1 _ _ _ B7.out
  have b2:w7.cell? ⟨w1.heap.size,2,none⟩=some _:=ae _ _ 2 _ _ _ B7.out
  have X1:=ab (carry aa B7.out (by omega))
  have X2:=ab (carry ak X1.out (by omega))
  have b3:W1.cell? ⟨w1.heap.size,1,none⟩=some _:=ae _ _ 1 _ _ _ X1.out
  have b4:W1.cell? ⟨w1.heap.size,2,none⟩=some _:=ae _ _ 2 _ _ _ X1.out
  have hD:W2.cell? ⟨w1.heap.size,1,none⟩=some _:=ae _ _ 1 _ _ _ X2.out
  have b6:W2.cell? ⟨w1.heap.size,2,none⟩=some _:=ae _ _ 2 _ _ _ X2.out
  have b5:=fO X2.out
  have c8:=L0 1
  have c9:=L1 1
  have da:=L2 1
  have dc:=hE 1
  have bz:=a3 1
  have a4:∀ w:World,w.drewN 1=w.drew:=fun _=>rfl
  rw [a4] at c8 c9 da
  rw [a4,a4] at dc bz
  clear L0 L1 L2 hE a3 a4
  have d7:=fO X1.out
  have d8:=fO B7.out
  go_wp2
  go_region
  go_wp2_with fail
  have bD:=(bo.grown aa cl br.j4).grown ak cl eV.out.j4
  have ho:w7.heap.size=W2.heap.size:=by omega
  rw [show (cnt+1==1) = !(d.contains (T,j)) by rw [bx.out];cases d.contains (T,j) <;> rfl,HT.out]
  refine (iO base c _ _ 8 W2.drew (bD.gr ((Below.refl _ W2).drew)) (by simp;omega)).mono ?_
  rintro e w9 ⟨rfl,d9,q⟩
  have N:W2.grownBy w9 (some c):=⟨q.os,q.tape,q.output,q.size,q.block⟩
  clear q
  have hp:W2.heap.size≤w9.heap.size:=N.size
  have B9:=ab (carry N X2.out (by omega))
  have A8:=ab (carry aa A7.out (by omega))
  have e1:=ab (carry ak A8.out (by omega))
  have A9:=ab (carry N e1.out (by omega))
  have dk:=fY.gr (w':=w9) c7.out (N.block r c7.out.lt (fun e=>by cases e;omega))
  have al:=((eT.grown aa (by omega)).grown ak (by omega)).grown N (by omega)
  clear b1 b2 b3 b4 hD b6 c8 c9 da dc bz bo bD d8 d7 b5
  have m0:w9.cell? ⟨w1.heap.size,0,none⟩=some _:=ae _ _ 0 _ _ _ B9.out
  have m1:w9.cell? ⟨w1.heap.size,1,none⟩=some _:=ae _ _ 1 _ _ _ B9.out
  have e9:=fO B9.out
  have y1:=al.c1
  have y3:=al.c3
  have y5:=al.c5
  have yz:=al.two
  go_wp2_with fail
  have TK:=jU base c _ Q _ d9 (by omega) (by rw [HV.out];decide) (by rw [HV.out];decide)
  rw [HV.out] at TK
  refine TK.mono ?_
  clear TK
  rintro e o ⟨v10,rfl,a1,-,b7,s⟩
  obtain ⟨U,bI,a1⟩:=a1.name
  have dl:=ab bI
  have hr:U.length≤4:=by rw [bI,Cu.take_length];decide
  clear bI y1 y3 y5 yz m0 m1
  have gv:=s.size
  have C:=ab (carry s B9.out (by omega))
  have e2:=ab (carry s A9.out (by omega))
  have bL:=fY.gr (w':=o) dk (s.block r dk.lt (fun e=>by cases e;omega))
  have b8:=al.grown s (by omega)
  have q0:o.cell? ⟨w1.heap.size,0,none⟩=some _:=ae _ _ 0 _ _ _ C.out
  have X:o.cell? ⟨w1.heap.size,1,none⟩=some _:=ae _ _ 1 _ _ _ C.out
  have q2:o.cell? ⟨w1.heap.size,2,none⟩=some _:=ae _ _ 2 _ _ _ C.out
  have q3:o.cell? ⟨w1.heap.size,3,none⟩=some _:=ae _ _ 3 _ _ _ C.out
  have f3:=aj _ _ 3 _ _ C.out
  have fa:=fO C.out
  go_wp2_with (refine gR rfl (.tmp 81) rfl U a1 ?_)
  have am:=grownBy_set (Below.refl _ o) 3 (.string ⟨U.toArray⟩) (c:=w1.heap.size)
  have dn:=ab (heap_setCell o w1.heap.size 3 (.string ⟨U.toArray⟩) C.out)
  have dp:=ab (carry am e2.out (by omega))
  have ca:=b7.grown am (by omega) (fun k n=>by rw [C.out];simp)
  have bM:=fY.gr (w':=o.setCell ⟨w1.heap.size,3,none⟩ (.string ⟨U.toArray⟩)) bL (am.block r bL.lt (fun e=>by cases e;omega))
  have ea:=b8.grown am (by omega)
  refine (qe _ U _ ea (by decide) (by decide) (by unfold gF;omega)).mono ?_
  rintro e ds ⟨rfl,B⟩
  have gz:o.heap.size≤ds.heap.size:=by simpa using B.size
  have e4:=ab (fQ B (fO dn.out) dn.out)
  have e5:=ab (fQ B (fO dp.out) dp.out)
  have cb:=ca.gr B
  have bN:=fY.gr (w':=ds) bM (B.block r bM.lt)
  clear q0 X q2 q3 f3
  go_wp2_with fail
  refine (iO base c _ _ 9 _ cb (by omega)).mono ?_
  rintro e l ⟨rfl,ce,E⟩
  have g0:=E.size
  have ap:=ab (carry E e4.out (by omega))
  have m:=ab (carry E e5.out (by omega))
  have bO:=fY.gr (w':=l) bN (E.block r bN.lt (fun e=>by cases e;omega))
  have q0:l.cell? ⟨w1.heap.size,0,none⟩=some _:=ae _ _ 0 _ _ _ ap.out
  have X:l.cell? ⟨w1.heap.size,1,none⟩=some _:=ae _ _ 1 _ _ _ ap.out
  have q2:l.cell? ⟨w1.heap.size,2,none⟩=some _:=ae _ _ 2 _ _ _ ap.out
  have q3:l.cell? ⟨w1.heap.size,3,none⟩=some _:=ae _ _ 3 _ _ _ ap.out
  have p0:l.cell? ⟨w.heap.size,0,none⟩=some _:=ae _ _ 0 _ _ _ m.out
  have p1:l.cell? ⟨w.heap.size,1,none⟩=some _:=ae _ _ 1 _ _ _ m.out
  have p2:l.cell? ⟨w.heap.size,2,none⟩=some _:=ae _ _ 2 _ _ _ m.out
  have p3:l.cell? ⟨w.heap.size,3,none⟩=some _:=ae _ _ 3 _ _ _ m.out
  have e0:=aj _ _ 0 _ _ m.out
  have hz:=aj _ _ 1 _ _ m.out
  have hH:=aj _ _ 2 _ _ m.out
  have e3:=aj _ _ 3 _ _ m.out
  have fb:=fO ap.out
  have fc:=fO m.out
  go_wp2
  have hR:((cu.take 2).1.me 1 T d O Q).2=⟨1,T,j,U⟩:=by
   rw [dl.out,bk.out,HT.out,HK.out,HV.out]
   rfl
  have GL:=gG (gG (gG (grownBy_set (Below.refl _ l) 0 (.int .i64 1) (c:=w.heap.size)) 1 (.int .i64 T)) 2 (.string ⟨j.toArray⟩)) 3 (.string ⟨U.toArray⟩)
  rw [HT.out] at GL
  refine aI (v:=zu ⟨1,T,j,U⟩) (by simp [results,Tryz.results187,go_sem,zu,HT.out,p0,p1,p2,p3]) rfl ⟨by rw [hR],?_,fun e8 => ?_,?_⟩
  ·have:=ce.grown GL eb (fun k n=>by rw [m.out];simp)
   exact this.eq (by rw [dl.out,bk.out,HT.out,HK.out,HV.out];rfl)
  ·have V:=uv e8
   rw [HK.out] at V
   rw [←bk.out] at V
   have a2:cnt=0:=by rw [bx.out,V];rfl
   have dv:=fY.gr bO (GL.block r bO.lt (fun e=>by cases e;omega))
   rw [a2] at dv
   rw [hR]
   have hz:=qU (T,j) d V
   unfold gQ
   rw [←hz]
   exact dv
  ·have x1:=((Ext.refl (fun i=>i=c∨i=r) w).alloc _).grow W (.inl (.inl rfl))
   have x2:=(x1.rT (((Below.refl _ w1).alloc (af _) _).drew)).grow G (.inl (.inl rfl))
   have x3:=(((x2.grow I (.inl (.inl rfl))).grow J (.inl (.inl rfl))).grow G4 (.inr (by omega))).rT D
   have x4:=(((x3.grow M (.inl (.inl rfl))).grow aa (.inl (.inr rfl))).grow ak (.inl (.inr rfl))).grow N (.inl (.inl rfl))
   exact (((((x4.grow s (.inl (.inl rfl))).grow am (.inr (by omega))).rT B).grow E (.inl (.inl rfl)))).grow GL (.inr (af _))
end Go.Proofs.YtkkfmkhbdoeglabGreatDoor
