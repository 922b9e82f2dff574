/- A part of what is proved here: lemmas and contracts of single functions. No condition but those that each names. -/
import Derived.Test.YtkkfmkhbdoeglaaGreatDoorG00
import Derived.Test.YtkkfmkhbdoeglaaGreatDoorG02
set_option maxHeartbeats 2000000
set_option maxRecDepth 100000
namespace Go.Proofs.YtkkfmkhbdoeglaaGreatDoor
open Go.RowKit
theorem Io (T:Int) (G N:Nat) (W:T=0∧G=6∧N=4∨T=1∧G=5∧N=4∨T=2∧G=2∧N=2) (base c r:Nat) (cu:Cu) (x y:UInt8) (d:List K) (w:World) (h:CurAt w base c cu) (hm:gM w r d) (hg:ShapesVar w) (fl:2≤base) (hb:base≤w.heap.size) (bD:c<r)
  (hh:(cu.take 2).2=[x,y]) (hx:(x.toNat:Int)=2) (hy:(y.toNat:Int)=T) (hf:(cu.take 2).1.f=none) :
  Calls Tryz.prog 144 #[.pointer (some ⟨c,0,none⟩),.map (some r)] w fun e w'=>e = .returned (yV ((cu.take 2).1.lZ 2 T d G N).2)∧CurAt w' base c ((cu.take 2).1.lZ 2 T d G N).1∧(((cu.take 2).1.lZ 2 T d G N).1.f=none→gM w' r (d++[(T,((cu.take 2).1.lZ 2 T d G N).2.key)]))∧Ext (fun i=>i=c∨i=r) w w':=by
 rcases W with ⟨W,hK,hV⟩ | ⟨W,hK,hV⟩ | ⟨W,hK,hV⟩
 all_goals
  rw [W] at hy
  have HT:=ae W
  have HK:=ae hK
  have HV:=ae hV
  clear W hK hV
  have H0:=ae (fL w (.cells #[.int .i64 0,.int .i64 0,.string ⟨#[]⟩,.string ⟨#[]⟩] 96))
  have cs:=h.lt
  have ct:=hm.lt
  have fn:base≤c:=h.2.2.2.1
  have fo:w.heap.size<(w.alloc (.cells #[.int .i64 0,.int .i64 0,.string ⟨#[]⟩,.string ⟨#[]⟩] 96)).heap.size:=by simp
  have cv:gM (w.alloc (.cells #[.int .i64 0,.int .i64 0,.string ⟨#[]⟩,.string ⟨#[]⟩] 96)) r d:=fS.fW hm (heap_alloc_old _ _ ct)
  have cB:=hg.alloc (.cells #[.int .i64 0,.int .i64 0,.string ⟨#[]⟩,.string ⟨#[]⟩] 96)
  go_enter Tryz.func144,Tryz.ntmps144
  go_wp2_with fail
  refine (jH base c cu 2 _ (h.fW ((Below.refl _ w).alloc (ah _) _)) (by simp;omega) (by decide) (by decide)).mono ?_
  rintro e w1 ⟨v,rfl,hv,-,bH,O⟩
  rw [hh] at hv
  obtain ⟨a,cap,rfl,b8,al⟩:=hv.opened
  obtain ⟨b,off,rfl,Y⟩:=al 0 (by simp)
  obtain ⟨b',d6,he,c1⟩:=al 1 (by simp)
  cases he
  simp only [cC,cn,ee] at Y c1
  have d7:=fP Y
  clear al hv
  simp only [au,aJ] at b8
  have s:=O.size
  have A1:=ae (carry O H0.out (by omega))
  have d9:=bH.lt
  have c3:gM w1 r d:=fS.fW cv (O.block r (by simp;omega) (fun e=>by cases e;omega))
  have am:=cB.grown O (by omega)
  have fp:=am.two
  go_wp2
  go_region
  go_wp2_with fail
  refine (iK base c _ _ 6 _ (bH.fW (((Below.refl _ w1).alloc (ah _) _).drew)) (by simp at s⊢;omega)).mono ?_
  rintro e w2 ⟨rfl,ap,B⟩
  have B2:=ae (carry B (fL w1 _) (by omega))
  have A2:=ae (carry B (fQ w1 _ A1.out) (by omega))
  have bI:gM w2 r d:=fS.fW c3 ((B.block r (by simp at s⊢;omega) (fun e=>by cases e;omega)).trans (heap_alloc_old w1 _ (by simp at s;omega)))
  have c5:=(am.new (((Below.refl _ w1).alloc (ah _) _).drew)).grown B (by omega)
  have q0:w2.cell? ⟨w1.heap.size,0,none⟩=some _:=af _ _ 0 _ _ _ B2.out
  have q1:w2.cell? ⟨w1.heap.size,1,none⟩=some _:=af _ _ 1 _ _ _ B2.out
  have ec:=fI B2.out
  have av:=B.size
  simp only [Cu.nm] at ap
  go_wp2_with fail
  refine (iK base c _ _ 6 _ ap (by simp at s av⊢;omega)).mono ?_
  rintro e w3 ⟨rfl,I,C⟩
  have c6:=C.size
  have B3:=ae (carry C B2.out (by omega))
  have A3:=ae (carry C A2.out (by omega))
  have bL:gM w3 r d:=fS.fW bI (C.block r bI.lt (fun e=>by cases e;omega))
  have Q:=c5.grown C (by omega)
  simp only [Cu.nm] at I
  clear q0 q1
  have q1:w3.cell? ⟨w1.heap.size,1,none⟩=some _:=af _ _ 1 _ _ _ B3.out
  have k3:=I.jR hf
  have ej:=I.lt
  have el:=fI B3.out
  have z0:=Q.c0
  have z2:=Q.c2
  have z4:=Q.c4
  have z:=Q.two
  go_wp2_with fail
  have TK:=jH base c _ G _ I (by simp at s av c6⊢;omega) (by rw [HK.out];decide) (by rw [HK.out];decide)
  rw [HK.out] at TK
  refine TK.mono ?_
  clear TK
  rintro e R ⟨v4,rfl,aE,-,ce,D⟩
  obtain ⟨j,a0,aE⟩:=aE.name
  have a1:=ae a0
  have fr:j.length≤6:=by rw [a0,Cu.take_length];decide
  clear a0 z0 z2 z4 z q1 k3
  have fz:=D.size
  have X:=ae (carry D B3.out (by omega))
  have A4:=ae (carry D A3.out (by omega))
  have bM:gM R r d:=fS.fW bL (D.block r bL.lt (fun e=>by cases e;omega))
  have cf:=Q.grown D (by omega)
  have q0:R.cell? ⟨w1.heap.size,0,none⟩=some _:=af _ _ 0 _ _ _ X.out
  have q1:R.cell? ⟨w1.heap.size,1,none⟩=some _:=af _ _ 1 _ _ _ X.out
  have q2:R.cell? ⟨w1.heap.size,2,none⟩=some _:=af _ _ 2 _ _ _ X.out
  have f2:=ao _ _ 2 _ _ X.out
  have en:=fI X.out
  go_wp2_with (refine gF rfl (.tmp 48) rfl j aE ?_)
  have er:w.heap.size+1≤w1.heap.size:=by simpa using s
  have eC:w1.heap.size+1≤w2.heap.size:=by simpa using av
  have G4:=grownBy_set (Below.refl _ R) 2 (.string ⟨j.toArray⟩) (c:=w1.heap.size)
  have B5:=ae (heap_setCell R w1.heap.size 2 (.string ⟨j.toArray⟩) X.out)
  have A5:=ae (carry G4 A4.out (by omega))
  have ci:=ce.grown G4 (by omega) (fun k n=>by rw [X.out];simp)
  have bN:gM (R.setCell ⟨w1.heap.size,2,none⟩ (.string ⟨j.toArray⟩)) r d:=fS.fW bM (G4.block r bM.lt (fun e=>by cases e;omega))
  have bO:=cf.grown G4 (by omega)
  refine (oG _ j _ bO (by decide) (by decide) (by unfold gx;omega)).mono ?_
  rintro e w6 ⟨rfl,o⟩
  have fB:R.heap.size≤w6.heap.size:=by simpa using o.size
  have B6:=ae (fK o (fI B5.out) B5.out)
  have A6:=ae (fK o (fI A5.out) A5.out)
  have cl:=ci.fW o
  have bP:gM w6 r d:=fS.fW bN (o.block r bN.lt)
  have dc:=bO.new o
  clear q0 q1 q2 f2
  go_wp2_with fail
  refine (iK base c _ _ 7 _ cl (by omega)).mono ?_
  rintro e w7 ⟨rfl,a4,E⟩
  have f0:=E.size
  have B7:=ae (carry E B6.out (by omega))
  have A7:=ae (carry E A6.out (by omega))
  have a5:gM w7 r d:=fS.fW bP (E.block r bP.lt (fun e=>by cases e;omega))
  have dk:=dc.grown E (by omega)
  have hzero:∀ u:World,(zeroValue 3).run Tryz.prog u = .ok (.int .i64 0) u:=fun u=>by kernel_rfl
  obtain ⟨W1,st,hE,a6,S,f1,bS⟩:=fS.entry a5 (mt:=242) (e:=3) (z := .int .i64 0) Tryz.underlying242 hzero (T,j)
  have L0:=fun n=>fS.lookup (w:=w7.drewN n) (fS.fW a5 rfl) (mt:=242) (e:=3) (z := .int .i64 0) Tryz.underlying242 (hzero _) (T,j)
  have L1:=fun n=>fS.lookup (w:=W1.drewN n) (fS.fW a6 rfl) (mt:=242) (e:=3) (z := .int .i64 0) Tryz.underlying242 (hzero _) (T,j)
  rw [lP] at L1
  obtain ⟨cnt,J⟩:∃ cnt:Int,cnt=if d.contains (T,j) then 1 else 0:=⟨_,rfl⟩
  have bX:(nk (T,j) (d.map fun k=>(k,(Value.int .i64 1)))).getD (.int .i64 0) = .int .i64 cnt:=by rw [J];exact rU _ _
  obtain ⟨U,Z,a9,V,f3⟩:=bS (.int .i64 (cnt+1))
  have L2:=fun n=>fS.lookup (w:=U.drewN n) (fS.fW a9 rfl) (mt:=242) (e:=3) (z := .int .i64 0) Tryz.underlying242 (hzero _) (T,j)
  rw [lP] at L2
  simp only [bX,bT] at hE Z L0 L1 L2
  simp only [kV,iX,goInt,HT.out] at hE Z L0 L1 L2
  have b0:=ae a9
  have dl:=ae a6
  clear a6 a9 bS bX hzero
  have f4:0≤cnt∧cnt≤1:=by rw [J];split <;> omega
  have bb:=ae J
  clear J
  have gf:w7.cell? ⟨w1.heap.size,1,none⟩=some _:=af _ _ 1 _ _ _ B7.out
  have gg:w7.cell? ⟨w1.heap.size,2,none⟩=some _:=af _ _ 2 _ _ _ B7.out
  have X1:=ae (carry S B7.out (by omega))
  have X2:=ae (carry V X1.out (by omega))
  have gl:W1.cell? ⟨w1.heap.size,1,none⟩=some _:=af _ _ 1 _ _ _ X1.out
  have gn:W1.cell? ⟨w1.heap.size,2,none⟩=some _:=af _ _ 2 _ _ _ X1.out
  have go:U.cell? ⟨w1.heap.size,1,none⟩=some _:=af _ _ 1 _ _ _ X2.out
  have gp:U.cell? ⟨w1.heap.size,2,none⟩=some _:=af _ _ 2 _ _ _ X2.out
  have bx:=fI X2.out
  have b1:=L0 1
  have b2:=L1 1
  have b3:=L2 1
  have b4:=hE 1
  have bc:=Z 1
  have aa:∀ w:World,w.drewN 1=w.drew:=fun _=>rfl
  rw [aa] at b1 b2 b3
  rw [aa,aa] at b4 bc
  clear L0 L1 L2 hE Z aa
  have cp:=fI X1.out
  have cq:=fI B7.out
  go_wp2
  go_region
  go_wp2_with fail
  have bi:=(a4.grown S bD a5.jR).grown V bD dl.out.jR
  have f5:w7.heap.size=U.heap.size:=by omega
  rw [show (cnt+1==1) = !(d.contains (T,j)) by rw [bb.out];cases d.contains (T,j) <;> rfl,HT.out]
  refine (iK base c _ _ 8 U.drew (bi.fW ((Below.refl _ U).drew)) (by simp;omega)).mono ?_
  rintro e m ⟨rfl,cr,l⟩
  have F:U.grownBy m (some c):=⟨l.os,l.tape,l.output,l.size,l.block⟩
  clear l
  have f6:U.heap.size≤m.heap.size:=F.size
  have B9:=ae (carry F X2.out (by omega))
  have A8:=ae (carry S A7.out (by omega))
  have dn:=ae (carry V A8.out (by omega))
  have q:=ae (carry F dn.out (by omega))
  have b5:=fS.fW (w':=m) b0.out (F.block r b0.out.lt (fun e=>by cases e;omega))
  have f7:=((dk.grown S (by omega)).grown V (by omega)).grown F (by omega)
  clear gf gg gl gn go gp b1 b2 b3 b4 bc a4 bi cq cp bx
  have q0:m.cell? ⟨w1.heap.size,0,none⟩=some _:=af _ _ 0 _ _ _ B9.out
  have q1:m.cell? ⟨w1.heap.size,1,none⟩=some _:=af _ _ 1 _ _ _ B9.out
  have q2:m.cell? ⟨w1.heap.size,2,none⟩=some _:=af _ _ 2 _ _ _ B9.out
  have q3:m.cell? ⟨w1.heap.size,3,none⟩=some _:=af _ _ 3 _ _ _ B9.out
  have p0:m.cell? ⟨w.heap.size,0,none⟩=some _:=af _ _ 0 _ _ _ q.out
  have p1:m.cell? ⟨w.heap.size,1,none⟩=some _:=af _ _ 1 _ _ _ q.out
  have p2:m.cell? ⟨w.heap.size,2,none⟩=some _:=af _ _ 2 _ _ _ q.out
  have p3:m.cell? ⟨w.heap.size,3,none⟩=some _:=af _ _ 3 _ _ _ q.out
  have e0:=ao _ _ 0 _ _ q.out
  have e1:=ao _ _ 1 _ _ q.out
  have e2:=ao _ _ 2 _ _ q.out
  have e3:=ao _ _ 3 _ _ q.out
  have dT:=fI B9.out
  have d0:=fI q.out
  go_wp2
  have hR:((cu.take 2).1.lZ 2 T d G N).2=⟨2,T,j,[]⟩:=by
   rw [a1.out,HT.out,HK.out]
   rfl
  have GL:=gC (gC (gC (grownBy_set (Below.refl _ m) 0 (.int .i64 2) (c:=w.heap.size)) 1 (.int .i64 T)) 2 (.string ⟨j.toArray⟩)) 3 (.string ⟨#[]⟩)
  rw [HT.out] at GL
  refine aK (v:=yV ⟨2,T,j,[]⟩) (by simp [results,Tryz.results144,go_sem,yV,HT.out,p0,p1,p2,p3]) rfl ⟨by rw [hR],?_,fun dv => ?_,?_⟩
  ·have:=cr.grown GL cs (fun k n=>by rw [q.out];simp)
   exact this.eq (by rw [a1.out,HT.out,HK.out];rfl)
  ·have M:=tV dv
   rw [HK.out] at M
   rw [←a1.out] at M
   have Y:cnt=0:=by rw [bb.out,M];rfl
   have b6:=fS.fW b5 (GL.block r b5.lt (fun e=>by cases e;omega))
   rw [Y] at b6
   rw [hR]
   have e1:=qQ (T,j) d M
   unfold gM
   rw [←e1]
   exact b6
  ·have x1:=((Ext.refl (fun i=>i=c∨i=r) w).alloc _).grow O (.inl (.inl rfl))
   have x2:=(x1.qj (((Below.refl _ w1).alloc (ah _) _).drew)).grow B (.inl (.inl rfl))
   have x3:=(((x2.grow C (.inl (.inl rfl))).grow D (.inl (.inl rfl))).grow G4 (.inr (by omega))).qj o
   have x4:=(((x3.grow E (.inl (.inl rfl))).grow S (.inl (.inr rfl))).grow V (.inl (.inr rfl))).grow F (.inl (.inl rfl))
   exact x4.grow GL (.inr (ah _))
end Go.Proofs.YtkkfmkhbdoeglaaGreatDoor
