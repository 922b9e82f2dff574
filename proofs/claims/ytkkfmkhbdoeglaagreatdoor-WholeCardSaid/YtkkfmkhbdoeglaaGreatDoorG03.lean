/- A part of what is proved here: lemmas and contracts of single functions. No condition but those that each names. -/
import Derived.Test.YtkkfmkhbdoeglaaGreatDoorG00
import Derived.Test.YtkkfmkhbdoeglaaGreatDoorG02
set_option maxHeartbeats 2000000
set_option maxRecDepth 100000
namespace Go.Proofs.YtkkfmkhbdoeglaaGreatDoor
open Go.RowKit
theorem Im (T:Int) (O Q:Nat) (hT:T=0∧O=6∧Q=4∨T=1∧O=5∧Q=4∨T=2∧O=2∧Q=2) (base c r:Nat) (cu:Cu) (x y:UInt8) (d:List K) (w:World) (h:CurAt w base c cu) (hm:gM w r d) (hB:ShapesVar w) (hf:2≤base) (hb:base≤w.heap.size) (ci:c<r)
  (hC:(cu.take 2).2=[x,y]) (hx:(x.toNat:Int)=1) (hy:(y.toNat:Int)=T) (hD:(cu.take 2).1.f=none) :
  Calls Tryz.prog 144 #[.pointer (some ⟨c,0,none⟩),.map (some r)] w fun e w'=>e = .returned (yV ((cu.take 2).1.lZ 1 T d O Q).2)∧CurAt w' base c ((cu.take 2).1.lZ 1 T d O Q).1∧(((cu.take 2).1.lZ 1 T d O Q).1.f=none→gM w' r (d++[(T,((cu.take 2).1.lZ 1 T d O Q).2.key)]))∧Ext (fun i=>i=c∨i=r) w w':=by
 rcases hT with ⟨hT,hK,hV⟩ | ⟨hT,hK,hV⟩ | ⟨hT,hK,hV⟩
 all_goals
  rw [hT] at hy
  have HT:=ae hT
  have HK:=ae hK
  have HV:=ae hV
  clear hT hK hV
  have H0:=ae (fL w (.cells #[.int .i64 0,.int .i64 0,.string ⟨#[]⟩,.string ⟨#[]⟩] 96))
  have eb:=h.lt
  have ec:=hm.lt
  have hg:base≤c:=h.2.2.2.1
  have hh:w.heap.size<(w.alloc (.cells #[.int .i64 0,.int .i64 0,.string ⟨#[]⟩,.string ⟨#[]⟩] 96)).heap.size:=by simp
  have ed:gM (w.alloc (.cells #[.int .i64 0,.int .i64 0,.string ⟨#[]⟩,.string ⟨#[]⟩] 96)) r d:=fS.fW hm (heap_alloc_old _ _ ec)
  have eg:=hB.alloc (.cells #[.int .i64 0,.int .i64 0,.string ⟨#[]⟩,.string ⟨#[]⟩] 96)
  go_enter Tryz.func144,Tryz.ntmps144
  go_wp2_with fail
  refine (jH base c cu 2 _ (h.fW ((Below.refl _ w).alloc (ah _) _)) (by simp;omega) (by decide) (by decide)).mono ?_
  rintro e w1 ⟨v,rfl,hv,-,cl,W⟩
  rw [hC] at hv
  obtain ⟨a,cap,rfl,dT,a7⟩:=hv.opened
  obtain ⟨b,off,rfl,a1⟩:=a7 0 (by simp)
  obtain ⟨b',fp,he,ej⟩:=a7 1 (by simp)
  cases he
  simp only [cC,cn,ee] at a1 ej
  have fr:=fP a1
  clear a7 hv
  simp only [au,aJ] at dT
  have F:=W.size
  have A1:=ae (carry W H0.out (by omega))
  have fB:=cl.lt
  have el:gM w1 r d:=fS.fW ed (W.block r (by simp;omega) (fun e=>by cases e;omega))
  have a9:=eg.grown W (by omega)
  have hi:=a9.two
  go_wp2
  go_region
  go_wp2_with fail
  refine (iK base c _ _ 6 _ (cl.fW (((Below.refl _ w1).alloc (ah _) _).drew)) (by simp at F⊢;omega)).mono ?_
  rintro e w2 ⟨rfl,ba,G⟩
  have B2:=ae (carry G (fL w1 _) (by omega))
  have A2:=ae (carry G (fQ w1 _ A1.out) (by omega))
  have co:gM w2 r d:=fS.fW el ((G.block r (by simp at F⊢;omega) (fun e=>by cases e;omega)).trans (heap_alloc_old w1 _ (by simp at F;omega)))
  have em:=(a9.new (((Below.refl _ w1).alloc (ah _) _).drew)).grown G (by omega)
  have q0:w2.cell? ⟨w1.heap.size,0,none⟩=some _:=af _ _ 0 _ _ _ B2.out
  have X:w2.cell? ⟨w1.heap.size,1,none⟩=some _:=af _ _ 1 _ _ _ B2.out
  have f1:=fI B2.out
  have bb:=G.size
  simp only [Cu.nm] at ba
  go_wp2_with fail
  refine (iK base c _ _ 6 _ ba (by simp at F bb⊢;omega)).mono ?_
  rintro e w3 ⟨rfl,R,I⟩
  have en:=I.size
  have B3:=ae (carry I B2.out (by omega))
  have A3:=ae (carry I A2.out (by omega))
  have cp:gM w3 r d:=fS.fW co (I.block r co.lt (fun e=>by cases e;omega))
  have Y:=em.grown I (by omega)
  simp only [Cu.nm] at R
  clear q0 X
  have X:w3.cell? ⟨w1.heap.size,1,none⟩=some _:=af _ _ 1 _ _ _ B3.out
  have k3:=R.jR hD
  have f6:=R.lt
  have f7:=fI B3.out
  have z0:=Y.c0
  have z2:=Y.c2
  have z4:=Y.c4
  have z:=Y.two
  go_wp2_with fail
  have TK:=jH base c _ O _ R (by simp at F bb en⊢;omega) (by rw [HK.out];decide) (by rw [HK.out];decide)
  rw [HK.out] at TK
  refine TK.mono ?_
  clear TK
  rintro e Z ⟨v4,rfl,bc,-,d1,J⟩
  obtain ⟨j,bi,bc⟩:=bc.name
  have bk:=ae bi
  have hj:j.length≤6:=by rw [bi,Cu.take_length];decide
  clear bi z0 z2 z4 z X k3
  have hk:=J.size
  have B4:=ae (carry J B3.out (by omega))
  have A4:=ae (carry J A3.out (by omega))
  have cq:gM Z r d:=fS.fW cp (J.block r cp.lt (fun e=>by cases e;omega))
  have d2:=Y.grown J (by omega)
  have q0:Z.cell? ⟨w1.heap.size,0,none⟩=some _:=af _ _ 0 _ _ _ B4.out
  have X:Z.cell? ⟨w1.heap.size,1,none⟩=some _:=af _ _ 1 _ _ _ B4.out
  have q2:Z.cell? ⟨w1.heap.size,2,none⟩=some _:=af _ _ 2 _ _ _ B4.out
  have f2:=ao _ _ 2 _ _ B4.out
  have f9:=fI B4.out
  go_wp2_with (refine gF rfl (.tmp 48) rfl j bc ?_)
  have ga:w.heap.size+1≤w1.heap.size:=by simpa using F
  have gb:w1.heap.size+1≤w2.heap.size:=by simpa using bb
  have G4:=grownBy_set (Below.refl _ Z) 2 (.string ⟨j.toArray⟩) (c:=w1.heap.size)
  have B5:=ae (heap_setCell Z w1.heap.size 2 (.string ⟨j.toArray⟩) B4.out)
  have A5:=ae (carry G4 A4.out (by omega))
  have d3:=d1.grown G4 (by omega) (fun k n=>by rw [B4.out];simp)
  have cr:gM (Z.setCell ⟨w1.heap.size,2,none⟩ (.string ⟨j.toArray⟩)) r d:=fS.fW cq (G4.block r cq.lt (fun e=>by cases e;omega))
  have cs:=d2.grown G4 (by omega)
  refine (oG _ j _ cs (by decide) (by decide) (by unfold gx;omega)).mono ?_
  rintro e w6 ⟨rfl,D⟩
  have hl:Z.heap.size≤w6.heap.size:=by simpa using D.size
  have B6:=ae (fK D (fI B5.out) B5.out)
  have A6:=ae (fK D (fI A5.out) A5.out)
  have d4:=d3.fW D
  have ct:gM w6 r d:=fS.fW cr (D.block r cr.lt)
  have eS:=cs.new D
  clear q0 X q2 f2
  go_wp2_with fail
  refine (iK base c _ _ 7 _ d4 (by omega)).mono ?_
  rintro e w7 ⟨rfl,bo,M⟩
  have hn:=M.size
  have B7:=ae (carry M B6.out (by omega))
  have A7:=ae (carry M A6.out (by omega))
  have br:gM w7 r d:=fS.fW ct (M.block r ct.lt (fun e=>by cases e;omega))
  have eT:=eS.grown M (by omega)
  have hzero:∀ u:World,(zeroValue 3).run Tryz.prog u = .ok (.int .i64 0) u:=fun u=>by kernel_rfl
  obtain ⟨W1,st,hE,bs,aa,ho,cv⟩:=fS.entry br (mt:=242) (e:=3) (z := .int .i64 0) Tryz.underlying242 hzero (T,j)
  have L0:=fun n=>fS.lookup (w:=w7.drewN n) (fS.fW br rfl) (mt:=242) (e:=3) (z := .int .i64 0) Tryz.underlying242 (hzero _) (T,j)
  have L1:=fun n=>fS.lookup (w:=W1.drewN n) (fS.fW bs rfl) (mt:=242) (e:=3) (z := .int .i64 0) Tryz.underlying242 (hzero _) (T,j)
  rw [lP] at L1
  obtain ⟨cnt,S⟩:∃ cnt:Int,cnt=if d.contains (T,j) then 1 else 0:=⟨_,rfl⟩
  have cB:(nk (T,j) (d.map fun k=>(k,(Value.int .i64 1)))).getD (.int .i64 0) = .int .i64 cnt:=by rw [S];exact rU _ _
  obtain ⟨W2,a2,bv,ag,hp⟩:=cv (.int .i64 (cnt+1))
  have L2:=fun n=>fS.lookup (w:=W2.drewN n) (fS.fW bv rfl) (mt:=242) (e:=3) (z := .int .i64 0) Tryz.underlying242 (hzero _) (T,j)
  rw [lP] at L2
  simp only [cB,bT] at hE a2 L0 L1 L2
  simp only [kV,iX,goInt,HT.out] at hE a2 L0 L1 L2
  have c6:=ae bv
  have eV:=ae bs
  clear bs bv cv cB hzero
  have hr:0≤cnt∧cnt≤1:=by rw [S];split <;> omega
  have bx:=ae S
  clear S
  have b1:w7.cell? ⟨w1.heap.size,1,none⟩=some _:=af _ _ 1 _ _ _ B7.out
  have b2:w7.cell? ⟨w1.heap.size,2,none⟩=some _:=af _ _ 2 _ _ _ B7.out
  have X1:=ae (carry aa B7.out (by omega))
  have X2:=ae (carry ag X1.out (by omega))
  have b3:W1.cell? ⟨w1.heap.size,1,none⟩=some _:=af _ _ 1 _ _ _ X1.out
  have b4:W1.cell? ⟨w1.heap.size,2,none⟩=some _:=af _ _ 2 _ _ _ X1.out
  have hG:W2.cell? ⟨w1.heap.size,1,none⟩=some _:=af _ _ 1 _ _ _ X2.out
  have b6:W2.cell? ⟨w1.heap.size,2,none⟩=some _:=af _ _ 2 _ _ _ X2.out
  have b5:=fI X2.out
  have c7:=L0 1
  have c8:=L1 1
  have c9:=L2 1
  have da:=hE 1
  have bz:=a2 1
  have a3:∀ w:World,w.drewN 1=w.drew:=fun _=>rfl
  rw [a3] at c7 c8 c9
  rw [a3,a3] at da bz
  clear L0 L1 L2 hE a2 a3
  have d6:=fI X1.out
  have d7:=fI B7.out
  go_wp2
  go_region
  go_wp2_with fail
  have bD:=(bo.grown aa ci br.jR).grown ag ci eV.out.jR
  have hs:w7.heap.size=W2.heap.size:=by omega
  rw [show (cnt+1==1) = !(d.contains (T,j)) by rw [bx.out];cases d.contains (T,j) <;> rfl,HT.out]
  refine (iK base c _ _ 8 W2.drew (bD.fW ((Below.refl _ W2).drew)) (by simp;omega)).mono ?_
  rintro e w9 ⟨rfl,d8,q⟩
  have N:W2.grownBy w9 (some c):=⟨q.os,q.tape,q.output,q.size,q.block⟩
  clear q
  have ht:W2.heap.size≤w9.heap.size:=N.size
  have B9:=ae (carry N X2.out (by omega))
  have A8:=ae (carry aa A7.out (by omega))
  have e1:=ae (carry ag A8.out (by omega))
  have A9:=ae (carry N e1.out (by omega))
  have dc:=fS.fW (w':=w9) c6.out (N.block r c6.out.lt (fun e=>by cases e;omega))
  have ak:=((eT.grown aa (by omega)).grown ag (by omega)).grown N (by omega)
  clear b1 b2 b3 b4 hG b6 c7 c8 c9 da bz bo bD d7 d6 b5
  have m0:w9.cell? ⟨w1.heap.size,0,none⟩=some _:=af _ _ 0 _ _ _ B9.out
  have m1:w9.cell? ⟨w1.heap.size,1,none⟩=some _:=af _ _ 1 _ _ _ B9.out
  have e9:=fI B9.out
  have y1:=ak.c1
  have y3:=ak.c3
  have y5:=ak.c5
  have yz:=ak.two
  go_wp2_with fail
  have TK:=jH base c _ Q _ d8 (by omega) (by rw [HV.out];decide) (by rw [HV.out];decide)
  rw [HV.out] at TK
  refine TK.mono ?_
  clear TK
  rintro e o ⟨v10,rfl,a0,-,b7,s⟩
  obtain ⟨U,bI,a0⟩:=a0.name
  have dk:=ae bI
  have hu:U.length≤4:=by rw [bI,Cu.take_length];decide
  clear bI y1 y3 y5 yz m0 m1
  have g1:=s.size
  have C:=ae (carry s B9.out (by omega))
  have e2:=ae (carry s A9.out (by omega))
  have bL:=fS.fW (w':=o) dc (s.block r dc.lt (fun e=>by cases e;omega))
  have b8:=ak.grown s (by omega)
  have q0:o.cell? ⟨w1.heap.size,0,none⟩=some _:=af _ _ 0 _ _ _ C.out
  have X:o.cell? ⟨w1.heap.size,1,none⟩=some _:=af _ _ 1 _ _ _ C.out
  have q2:o.cell? ⟨w1.heap.size,2,none⟩=some _:=af _ _ 2 _ _ _ C.out
  have q3:o.cell? ⟨w1.heap.size,3,none⟩=some _:=af _ _ 3 _ _ _ C.out
  have f3:=ao _ _ 3 _ _ C.out
  have fb:=fI C.out
  go_wp2_with (refine gF rfl (.tmp 81) rfl U a0 ?_)
  have al:=grownBy_set (Below.refl _ o) 3 (.string ⟨U.toArray⟩) (c:=w1.heap.size)
  have dl:=ae (heap_setCell o w1.heap.size 3 (.string ⟨U.toArray⟩) C.out)
  have dn:=ae (carry al e2.out (by omega))
  have ca:=b7.grown al (by omega) (fun k n=>by rw [C.out];simp)
  have bM:=fS.fW (w':=o.setCell ⟨w1.heap.size,3,none⟩ (.string ⟨U.toArray⟩)) bL (al.block r bL.lt (fun e=>by cases e;omega))
  have d9:=b8.grown al (by omega)
  refine (p8 _ U _ d9 (by decide) (by decide) (by unfold gx;omega)).mono ?_
  rintro e dp ⟨rfl,B⟩
  have g2:o.heap.size≤dp.heap.size:=by simpa using B.size
  have e4:=ae (fK B (fI dl.out) dl.out)
  have e5:=ae (fK B (fI dn.out) dn.out)
  have cb:=ca.fW B
  have bN:=fS.fW (w':=dp) bM (B.block r bM.lt)
  clear q0 X q2 q3 f3
  go_wp2_with fail
  refine (iK base c _ _ 9 _ cb (by omega)).mono ?_
  rintro e l ⟨rfl,ce,E⟩
  have g3:=E.size
  have am:=ae (carry E e4.out (by omega))
  have m:=ae (carry E e5.out (by omega))
  have bO:=fS.fW (w':=l) bN (E.block r bN.lt (fun e=>by cases e;omega))
  have q0:l.cell? ⟨w1.heap.size,0,none⟩=some _:=af _ _ 0 _ _ _ am.out
  have X:l.cell? ⟨w1.heap.size,1,none⟩=some _:=af _ _ 1 _ _ _ am.out
  have q2:l.cell? ⟨w1.heap.size,2,none⟩=some _:=af _ _ 2 _ _ _ am.out
  have q3:l.cell? ⟨w1.heap.size,3,none⟩=some _:=af _ _ 3 _ _ _ am.out
  have p0:l.cell? ⟨w.heap.size,0,none⟩=some _:=af _ _ 0 _ _ _ m.out
  have p1:l.cell? ⟨w.heap.size,1,none⟩=some _:=af _ _ 1 _ _ _ m.out
  have p2:l.cell? ⟨w.heap.size,2,none⟩=some _:=af _ _ 2 _ _ _ m.out
  have p3:l.cell? ⟨w.heap.size,3,none⟩=some _:=af _ _ 3 _ _ _ m.out
  have e0:=ao _ _ 0 _ _ m.out
  have hA:=ao _ _ 1 _ _ m.out
  have hH:=ao _ _ 2 _ _ m.out
  have e3:=ao _ _ 3 _ _ m.out
  have fd:=fI am.out
  have fg:=fI m.out
  go_wp2
  have hR:((cu.take 2).1.lZ 1 T d O Q).2=⟨1,T,j,U⟩:=by
   rw [dk.out,bk.out,HT.out,HK.out,HV.out]
   rfl
  have GL:=gC (gC (gC (grownBy_set (Below.refl _ l) 0 (.int .i64 1) (c:=w.heap.size)) 1 (.int .i64 T)) 2 (.string ⟨j.toArray⟩)) 3 (.string ⟨U.toArray⟩)
  rw [HT.out] at GL
  refine aK (v:=yV ⟨1,T,j,U⟩) (by simp [results,Tryz.results144,go_sem,yV,HT.out,p0,p1,p2,p3]) rfl ⟨by rw [hR],?_,fun e8 => ?_,?_⟩
  ·have:=ce.grown GL eb (fun k n=>by rw [m.out];simp)
   exact this.eq (by rw [dk.out,bk.out,HT.out,HK.out,HV.out];rfl)
  ·have V:=tV e8
   rw [HK.out] at V
   rw [←bk.out] at V
   have a1:cnt=0:=by rw [bx.out,V];rfl
   have ds:=fS.fW bO (GL.block r bO.lt (fun e=>by cases e;omega))
   rw [a1] at ds
   rw [hR]
   have hA:=qQ (T,j) d V
   unfold gM
   rw [←hA]
   exact ds
  ·have x1:=((Ext.refl (fun i=>i=c∨i=r) w).alloc _).grow W (.inl (.inl rfl))
   have x2:=(x1.qj (((Below.refl _ w1).alloc (ah _) _).drew)).grow G (.inl (.inl rfl))
   have x3:=(((x2.grow I (.inl (.inl rfl))).grow J (.inl (.inl rfl))).grow G4 (.inr (by omega))).qj D
   have x4:=(((x3.grow M (.inl (.inl rfl))).grow aa (.inl (.inr rfl))).grow ag (.inl (.inr rfl))).grow N (.inl (.inl rfl))
   exact (((((x4.grow s (.inl (.inl rfl))).grow al (.inr (by omega))).qj B).grow E (.inl (.inl rfl)))).grow GL (.inr (ah _))
end Go.Proofs.YtkkfmkhbdoeglaaGreatDoor
