/- A part of what is proved here: lemmas and contracts of single functions. No condition but those that each names. -/
import Derived.Test.YtkkfmkhbdoeglaaGreatDoorG00
import Derived.BigQuiet
import Derived.Deep.QuietTactic
import Derived.Test.YtkkfmkhbdoeglaaGreatDoorG09
set_option maxHeartbeats 4000000
set_option maxRecDepth 100000
namespace Go.Proofs.YtkkfmkhbdoeglaaGreatDoor
open Go.RowKit Go.Shelf
theorem zW {w l:World} {base h:Nat} {x:HV} {d:DpS} {v:Value} {L:List (List UInt8)} {S':List E} (m:HostIs w h {x.stop with log:=v}) (o:x.stop.dead=d.stop.dead∧x.stop.left=d.stop.left) (u:x.room=d.room)
  {n:Nat} (J:n=L.length) (M:OwnS w base 1 v n (strsV L)) (y:CellsOf w v 9) (B:v.ownBlock≠some x.r) (C:h≠x.r) (D:w.grownBy l (some x.r)) (N:TabAt l x.r S') (F:base≤h∧base≤x.r) (G : -1≤d.stop.left∧d.stop.left≤9223372036854775807) :
  DpAt l base h {x with left:=d.stop.left,dead:=d.stop.dead,log:=v} {d.stop with S:=S',log:=L} := by
 subst J
 have q:∀ b,v.ownBlock=some b→b≠x.r:=fun b O Q=>B (by rw [←Q];exact O)
 have i:∀ j,j≠x.r→j<w.heap.size→l.heap[j]?=w.heap[j]?:=fun j R I=>D.block j I (fun e=>R (by cases e;rfl))
 refine ⟨?_,rfl,rfl,u,N,M.frame D.size fun b e s=>i b (q b e) s,y.frame fun b e s=>i b (q b e) s,F,G⟩
 unfold HostIs HV.cells at m⊢
 rw [i h C (fI m)]
 simp only [o.1,o.2] at m⊢
 exact m
theorem DG (base h:Nat) (x:HV) (d:DpS) (t:Int) (s Z:List UInt8) (w:World) (hd:DpAt w base h x d) (hs:base≤w.heap.size) (d6:d.log.length≤8000000000000) (hk:s.length≤gx) (hv:Z.length≤gx) (hS:d.S.length≤1000000000) :
  Calls Tryz.prog 206 #[.agg #[.pointer (some ⟨h,0,none⟩)],.agg #[.int .i64 t,.string ⟨s.toArray⟩],.string ⟨Z.toArray⟩] w (Bn base h x (d.put (t,s) Z) w):=by
 have cv:Below w.heap.size w ((w.alloc (.cells #[.pointer (some ⟨h,0,none⟩)] 189)).alloc (.cells #[.int .i64 t,.string ⟨s.toArray⟩] 94)):=((Below.refl _ w).alloc (ah _) _).alloc (by simp) _
 have R0:=fQ _ (.cells #[.int .i64 t,.string ⟨s.toArray⟩] 94) (fL w (.cells #[.pointer (some ⟨h,0,none⟩)] 189))
 have R1:=fL (w.alloc (.cells #[.pointer (some ⟨h,0,none⟩)] 189)) (.cells #[.int .i64 t,.string ⟨s.toArray⟩] 94)
 rw [ax] at R1
 have rc:=af _ _ 0 _ _ _ R0
 obtain ⟨ak,b8,ca,cb,a1,cB,a0,d7,d8⟩:=hd
 have J:=fI ak
 have H0:=ak.fW (cv.block h J)
 have HW:=ae cv
 have HK:=ae (vh t)
 have lo : -1≤x.left:=by omega
 have hi:x.left≤9223372036854775807:=by omega
 have fr:=ae (nX h x _ H0 lo hi)
 have c0:=ae (a0.ne ak (by decide))
 have bI:=ae (a1.jQ ak)
 have fz:=ae (a0.qe a1)
 have e4:Hid (x.r<w.heap.size):=ae a1.lt
 have ce:=ae d7
 have fB:=ae d8
 have HL:=ae b8
 have HD:=ae ca
 have bL:=ae cb
 have HT:=ae a1
 have HO:=ae cB
 have f0:=ae a0
 have f1:=ae R0
 have f2:=ae R1
 have HB:=ae hs
 have d9:=ae d6
 have g8:=ae ak
 clear d7 d8 b8 ca cb a1 cB a0 R0 R1 cv H0 lo hi hs d6 ak
 go_enter Tryz.func206,Tryz.ntmps206
 go_wp2_with fail
 refine fr.out.mono ?_
 rintro e w2 ⟨rfl,eb,c1,cf⟩
 have c2:w.heap.size≠h:=by omega
 have c3:w.heap.size+1≠h:=by omega
 have bs:=ae (cf.at c2 f1.out)
 have a2:=ae (cf.at c3 f2.out)
 have bM:=ae eb
 have f4:=ae cf
 have ec:Hid (w2.heap.size=w.heap.size+2):=ae (by rw [c1];simp)
 clear eb cf c1 rc c2 c3
 have rc:=af _ _ 0 _ _ _ bs.out
 have bN:Hid (Ext (fun i=>i=h) w w2):=ae ((Ext.fM HW.out).trans f4.out)
 have ed:Hid (Ext (fun i=>i=h∨i=x.r∨x.log.ownBlock=some i) w w2):=ae (bN.out.mono fun i e => .inl e)
 have eg:Hid (OwnS w2 base 1 x.log d.log.length (strsV d.log)):=ae (HO.out.frame bN.out.size fun b e hs=>bN.out.block b hs fun M=>c0.out (by rw [e,M]))
 have bt:Hid (CellsOf w2 x.log 9):=ae (f0.out.frame fun b e hs=>bN.out.block b hs fun M=>c0.out (by rw [e,M]))
 have bO:Hid (TabAt w2 x.r d.S):=ae (HT.out.fW (bN.out.block _ e4.out (dx bI.out)))
 have I:Hid (x.stop.dead=d.stop.dead∧x.stop.left=d.stop.left):=ae (by unfold HV.stop DpS.stop;rw [HL.out,HD.out];exact ⟨rfl,rfl⟩)
 have bv:Hid (-1≤d.stop.left∧d.stop.left≤9223372036854775807):=ae (by have:=fB.out;unfold DpS.stop;simp only;split <;> omega)
 cases hdd:x.stop.dead with
 | true =>
  go_wp2
  refine aK (eh rfl _ _ _) rfl ?_
  have e:d.put (t,s) Z=d.stop:=by unfold DpS.put;rw [←I.out.1,hdd];rfl
  refine ⟨rfl,x.log,?_,ed.out,fun i e => .inl e⟩
  rw [e,←I.out.1,←I.out.2]
  exact ⟨bM.out,I.out.2,I.out.1,bL.out,bO.out,eg.out,bt.out,ce.out,bv.out⟩
 | false =>
  unfold HostIs HV.cells at *
  have hr:=af _ _ 11 _ _ _ bM.out
  have f9:=ao _ _ 11 _ _ bM.out
  have B:=af _ _ 0 _ _ _ a2.out
  have E:=af _ _ 1 _ _ _ a2.out
  have hj:=fI bM.out
  have hl:=fI a2.out
  have hb:=fI bs.out
  have f5:Hid (BytesAt (w2.alloc (.cells #[.int .u8 (IntKind.u8.wrap t)] 5)) (.slice (some ⟨w2.heap.size,0,none⟩) 1 1) [lR t]):=ae (by rw [←HK.out];exact pc w2 (lR t))
  go_wp2
  have hcv:=BytesAt.convert (w:=(w2.alloc (.cells #[.int .u8 (IntKind.u8.wrap t)] 5)).drew) (by exact f5.out)
  unfold gx at hk hv
  have f6:=fun W=>po (P:=Tryz.prog) [112,117,116,32] [lR t] (by simp) W
  have f7:=fun W=>po (P:=Tryz.prog) [112,117,116,32,lR t] s (by simp;omega) W
  have f8:=fun W=>po (P:=Tryz.prog) (112::117::116::32::lR t::s) [61] (by simp;omega) W
  have ga:=fun W=>po (P:=Tryz.prog) (112::117::116::32::lR t::(s++[61])) Z (by simp;omega) W
  have bP:=fun o o'=>ae (Below.drew (Below.al (Below.al (Below.rf w2) o) o'))
  obtain ⟨L,hL⟩:∃ L,L=112::117::116::32::lR t::(s++61::Z):=⟨_,rfl⟩
  have c4:Hid (sB (t,s) Z=L):=ae (by rw [hL];simp [sB])
  have ci:=ae (tj (w2.alloc (.cells #[.int .u8 (IntKind.u8.wrap t)] 5)) L)
  rw [ax,hL] at ci
  simp only [bR,bE,aY] at rc B E hr
  have a3:=fun o=>ae (show _∧_∧_∧_ from ⟨gr o rc,gr o B,gr o E,gr o hr⟩)
  have cl:=fun o o'=>ae (show _∧_∧_∧_ from ⟨gr o' (gr o rc),gr o' (gr o B),gr o' (gr o E),gr o' (gr o hr)⟩)
  refine iz (n:=23) (S:=fun w'=>w'.cell? ⟨w.heap.size,0,none⟩=some (.pointer (some ⟨h,0,none⟩))∧w'.cell? ⟨w.heap.size+1,0,none⟩=some (.int .i64 t)∧w'.cell? ⟨w.heap.size+1,1,none⟩=some (.string ⟨s.toArray⟩)∧w'.cell? ⟨h,11,none⟩=some x.stop.log) (by kernel_rfl) (by kernel_rfl) rfl (by first | exact ⟨rc,B,E,hr⟩ | exact (a3 _).out | exact (cl _ _).out) ?_
  intro c5
  simp only [cK,cg,cA,cL,bA,ch,bd,bu,bV,aQ,aX]
  refine wpAnyH_take (i:=0) (v := ?_) rfl (by kernel_rfl) (by kernel_rfl) (by kernel_rfl) (fun _ _ _ h=>h) (Or.inl ⟨by rfl,?_⟩) (by assumption) ?_
  rotate_left 1
  ·(intro w l;(try dsimp only at l);go_simp;(try with_reducible rfl))
  try simp only [Act.put,ai,aj]
  refine wpAnyH_take (i:=1) (v := ?_) rfl (by kernel_rfl) (by kernel_rfl) (by kernel_rfl) (fun _ _ _ h=>h) (Or.inl ⟨by rfl,?_⟩) (by assumption) ?_
  rotate_left 1
  ·(intro w l;(try dsimp only at l);go_simp;(try with_reducible rfl))
  try simp only [Act.put,ai,aj,aq]
  refine wpAnyH_take (i:=2) (v := ?_) rfl (by kernel_rfl) (by kernel_rfl) (by kernel_rfl) (fun _ _ _ h=>h) (Or.inl ⟨by rfl,?_⟩) (by assumption) ?_
  rotate_left 1
  ·(intro w l;(try dsimp only at l);go_simp;(try with_reducible rfl))
  try simp only [Act.put,ai,aj,aq]
  refine wpAnyH_take (i:=3) (v := ?_) rfl (by kernel_rfl) (by kernel_rfl) (by kernel_rfl) (fun _ _ _ h=>h) (Or.inl ⟨by rfl,?_⟩) (by assumption) ?_
  rotate_left 1
  ·(intro w l;(try dsimp only at l);go_simp;(try with_reducible rfl))
  try simp only [Act.put,ai,aj,aq]
  refine wpAnyH_take (i:=4) (v := ?_) rfl (by kernel_rfl) (by kernel_rfl) (by kernel_rfl) (fun _ _ _ h=>h) (Or.inl ⟨by rfl,?_⟩) (by assumption) ?_
  rotate_left 1
  ·(intro w l;(try dsimp only at l);go_simp;(try with_reducible rfl))
  try simp only [Act.put,ai,aj,aq]
  refine wpAnyH_take (i:=5) (v := ?_) rfl (by kernel_rfl) (by kernel_rfl) (by kernel_rfl) (fun _ _ _ h=>h) (Or.inl ⟨by rfl,?_⟩) (by assumption) ?_
  rotate_left 1
  ·(intro w l;(try dsimp only at l);go_simp;(try with_reducible rfl))
  try simp only [Act.put,ai,aj,aq]
  refine wpAnyH_take (i:=6) (v := ?_) rfl (by kernel_rfl) (by kernel_rfl) (by kernel_rfl) (fun _ _ _ h=>h) (Or.inl ⟨by rfl,?_⟩) (by assumption) ?_
  rotate_left 1
  ·(intro w l;(try dsimp only at l);go_simp;(try with_reducible rfl))
  try simp only [Act.put,ai,aj,aq]
  refine wpAnyH_take (i:=7) (v := ?_) rfl (by kernel_rfl) (by kernel_rfl) (by kernel_rfl) (fun _ _ _ h=>h) (Or.inl ⟨by rfl,?_⟩) (by assumption) ?_
  rotate_left 1
  ·(intro w l;(try dsimp only at l);go_simp;(try with_reducible rfl))
  try simp only [Act.put,ai,aj,aq]
  refine wpAnyH_take (i:=8) (v := ?_) rfl (by kernel_rfl) (by kernel_rfl) (by kernel_rfl) (fun _ _ _ h=>h) (Or.inl ⟨by rfl,?_⟩) (by assumption) ?_
  rotate_left 1
  ·(intro w l;(try dsimp only at l);go_simp;(try with_reducible rfl))
  try simp only [Act.put,ai,aj,aq]
  refine wpAnyH_take (i:=9) (v := ?_) rfl (by kernel_rfl) (by kernel_rfl) (by kernel_rfl) (fun _ _ _ h=>h) (Or.inl ⟨by rfl,?_⟩) (by assumption) ?_
  rotate_left 1
  ·(intro w l;(try dsimp only at l);go_simp;(try with_reducible rfl))
  try simp only [Act.put,ai,aj,aq]
  refine wpAnyH_take (i:=13) (v := ?_) rfl (by kernel_rfl) (by kernel_rfl) (by kernel_rfl) (fun _ _ _ h=>h) (Or.inl ⟨by rfl,?_⟩) (by assumption) ?_
  rotate_left 1
  ·(intro w l;(try dsimp only at l);go_simp;(try with_reducible rfl))
  try simp only [Act.put,ai,aj,aq]
  refine wpAnyH_take (i:=14) (v := ?_) rfl (by kernel_rfl) (by kernel_rfl) (by kernel_rfl) (fun _ _ _ h=>h) (Or.inl ⟨by rfl,?_⟩) (by assumption) ?_
  rotate_left 1
  ·(intro w l;(try dsimp only at l);go_simp;(try with_reducible rfl))
  try simp only [Act.put,ai,aj,aq]
  refine wpAnyH_take (i:=17) (v := ?_) rfl (by kernel_rfl) (by kernel_rfl) (by kernel_rfl) (fun _ _ _ h=>h) (Or.inl ⟨by rfl,?_⟩) (by assumption) ?_
  rotate_left 1
  ·(intro w l;(try dsimp only at l);go_simp;(try with_reducible rfl))
  try simp only [Act.put,ai,aj,aq]
  refine wpAnyH_ready (rs:=[10]) (by kernel_rfl) (by simp) ?_
  refine AllReadyH.cons rfl ?_ AllReadyH.nil
  intro K' hK'
  go_simp
  refine hK'.out _ _ (by first | exact ⟨rc,B,E,hr⟩ | exact (a3 _).out | exact (cl _ _).out) ?_
  clear hK' K'
  intro c6
  try simp only [ai,aj,aq]
  refine wpAnyH_ready (rs:=[11]) (by kernel_rfl) (by simp) ?_
  refine AllReadyH.cons rfl ?_ AllReadyH.nil
  intro K' hK'
  go_simp
  refine hK'.out _ _ (by first | exact ⟨rc,B,E,hr⟩ | exact (a3 _).out | exact (cl _ _).out) ?_
  clear hK' K'
  intro c7
  try simp only [ai,aj,aq]
  refine wpAnyH_take (i:=12) (v := ?_) rfl (by kernel_rfl) (by kernel_rfl) (by kernel_rfl) (fun _ _ _ h=>h) (Or.inl ⟨by rfl,?_⟩) (by assumption) ?_
  rotate_left 1
  ·(intro w l;(try dsimp only at l);go_simp;(try with_reducible rfl))
  try simp only [Act.put,ai,aj,aq]
  refine wpAnyH_take (i:=15) (v := ?_) rfl (by kernel_rfl) (by kernel_rfl) (by kernel_rfl) (fun _ _ _ h=>h) (Or.inl ⟨by rfl,?_⟩) (by assumption) ?_
  rotate_left 1
  ·(intro w l;(try dsimp only at l);go_simp;(try with_reducible rfl))
  try simp only [Act.put,ai,aj,aq]
  refine wpAnyH_take (i:=16) (v := ?_) rfl (by kernel_rfl) (by kernel_rfl) (by kernel_rfl) (fun _ _ _ h=>h) (Or.inl ⟨by rfl,?_⟩) (by assumption) ?_
  rotate_left 1
  ·(intro w l;(try dsimp only at l);go_simp;(try with_reducible rfl))
  try simp only [Act.put,ai,aj,aq]
  refine wpAnyH_take (i:=18) (v := ?_) rfl (by kernel_rfl) (by kernel_rfl) (by kernel_rfl) (fun _ _ _ h=>h) (Or.inl ⟨by rfl,?_⟩) (by assumption) ?_
  rotate_left 1
  ·(intro w l;(try dsimp only at l);go_simp;(try with_reducible rfl))
  try simp only [Act.put,ai,aj,aq]
  refine wpAnyH_ready (rs:=[19]) (by kernel_rfl) (by simp) ?_
  refine AllReadyH.cons rfl ?_ AllReadyH.nil
  intro K' hK'
  go_simp
  refine hK'.out _ _ (by first | exact ⟨rc,B,E,hr⟩ | exact (a3 _).out | exact (cl _ _).out) ?_
  clear hK' K'
  intro e5
  try simp only [ai,aj,aq]
  refine wpAnyH_ready (rs:=[20]) (by kernel_rfl) (by simp) ?_
  refine AllReadyH.cons rfl ?_ AllReadyH.nil
  intro K' hK'
  refine mh rfl (.tmp 17) (.tmp 30) rfl base _ _ d.log rfl rfl (by exact eg.out.below (bP _ _).out) (by exact bt.out.frame fun b _ hs=>(bP _ _).out.block b hs) [L] (by rw [hL];exact ci.out) (by have:=d9.out;simp;omega) (by have:=HB.out;have:=ec.out;simp;omega) ?_;intro v3 w3 bw N bx ej;obtain ⟨C,q,rfl⟩:=bw.shape;rw [←hL] at N;have bl:=ae (iJ N c0.out (fQ _ (.cells #[.string ⟨L.toArray⟩] 9) (fQ _ (.cells #[.int .u8 (IntKind.u8.wrap t)] 5) bM.out)));have el:=ae (iJ N (bt.out.ne bs.out (by decide)) (fQ _ (.cells #[.string ⟨L.toArray⟩] 9) (fQ _ (.cells #[.int .u8 (IntKind.u8.wrap t)] 5) bs.out)));have c8:=ae (iJ N (bt.out.ne a2.out (by decide)) (fQ _ (.cells #[.string ⟨L.toArray⟩] 9) (fQ _ (.cells #[.int .u8 (IntKind.u8.wrap t)] 5) a2.out)));refine hK'.out _ _ ⟨af _ _ 0 _ _ _ el.out,af _ _ 0 _ _ _ c8.out,af _ _ 1 _ _ _ c8.out,af _ _ 11 _ _ _ bl.out⟩ ?_
  clear hK' K'
  intro e6
  try simp only [Act.put,ai,aj,aq]
  refine wpAnyH_take (i:=21) (v := ?_) rfl (by kernel_rfl) (by kernel_rfl) (by kernel_rfl) (fun _ _ _ h=>h) (Or.inl ⟨by rfl,?_⟩) (by assumption) ?_
  rotate_left 1
  ·(intro w l;(try dsimp only at l);go_simp;(try with_reducible rfl))
  try simp only [Act.put,ai,aj,aq]
  refine wpAnyH_take (i:=22) (v := ?_) rfl (by kernel_rfl) (by kernel_rfl) (by kernel_rfl) (fun _ _ _ h=>h) (Or.inl ⟨by rfl,?_⟩) (by assumption) ?_
  rotate_left 1
  ·(intro w l;(try dsimp only at l);go_simp;(try with_reducible rfl))
  try simp only [Act.put,ai,aj,aq]
  refine wpAnyH_done (by kernel_rfl) ?_ _
  show Oper.wp _ _ _ _ _ _
  have hx:=af _ _ 11 _ _ _ bl.out
  have g9:=ao _ _ 11 _ _ bl.out
  have hn:=fI bl.out
  have gc:Hid (w2.heap.size≤w3.heap.size):=ae (by have:=N.size;simp at this;omega)
  have em:=ae (bx.ne bl.out (by decide))
  have en:Hid (TabAt w3 x.r d.S):=ae (bO.out.fW ((N.block _ (by simp;have:=bO.out.lt;omega) (fun e=>fz.out e.symm)).trans ((heap_alloc_old _ _ (by simp;have:=bO.out.lt;omega)).trans (heap_alloc_old _ _ bO.out.lt))))
  have c9:=ae (bx.qe en.out)
  have ge:=ae bw
  have e7:=ae bx
  have bz:Hid (∀ i,(Value.slice C (d.log.length+1) q).ownBlock=some i→x.log.ownBlock=some i∨w.heap.size≤i):=ae (fun i e=>(ej i e).imp id fun M=>by have:=ec.out;rw [M];simp;omega)
  have gf:Hid (Ext (fun i=>x.log.ownBlock=some i) w2 w3):=ae ⟨N.os,N.tape,N.output,gc.out,fun i hi a5=>(N.block i (by simp;omega) (fun e=>a5 e.symm)).trans ((heap_alloc_old _ _ (by simp;omega)).trans (heap_alloc_old _ _ hi))⟩
  clear bw N bx ej
  go_wp2
  obtain ⟨O,bn⟩:∃ O,O=w3.setCell ⟨h,11,none⟩ (.slice C (d.log.length+1) q):=⟨_,rfl⟩
  rw [←bn]
  have D:∀ j,j≠h→O.heap[j]?=w3.heap[j]?:=fun j ht=>by rw [bn];exact Below.heap_setCell _ ⟨h,11,none⟩ _ j ht
  have e9:Hid (O.heap.size=w3.heap.size):=ae (by rw [bn,size_setCell])
  have da:Hid (HostIs O h {x.stop with log := .slice C (d.log.length+1) q}):=ae (by rw [bn];exact heap_setCell _ _ 11 _ bl.out)
  have dc:=ae ((D _ (by omega:w.heap.size≠h)).trans el.out)
  have co:=ae ((D _ (by omega:w.heap.size+1≠h)).trans c8.out)
  have bS:Hid (TabAt O x.r d.S):=ae (en.out.fW (D _ (dx bI.out)))
  have gg:=ae (ge.out.frame (w':=O) (by have:=e9.out;omega) fun b e _=>D b fun M=>em.out (by rw [e,M]))
  have fb:=ae (e7.out.frame (w':=O) fun b e _=>D b fun M=>em.out (by rw [e,M]))
  have gl:Hid (Ext (fun i=>i=h∨i=x.r∨x.log.ownBlock=some i) w O):=ae (by rw [bn];exact (ed.out.trans (gf.out.mono fun i e => .inr (.inr e))).setCell _ _ (.inl (.inl rfl)))
  clear bn D rc B E hr f9 hx g9 hcv f6 f7 f8 ga c5 c6 c7 e5 e6
  unfold HostIs HV.cells at *
  have q0:=af _ _ 0 _ _ _ dc.out
  have B:=af _ _ 0 _ _ _ co.out
  have E:=af _ _ 1 _ _ _ co.out
  have X:=af _ _ 10 _ _ _ da.out
  simp only [bR,bE,aY] at q0 B E X
  have a6:O.cell? ⟨h,10,none⟩=some (.map (some x.r)):=X
  clear X
  have er:=fI da.out
  have dk:=fI dc.out
  have dl:=fI co.out
  have dn:=bS.out.lt
  have cp:=fun o=>TabAt.kM (w:=(O.alloc o).drew) (bS.out.fW (heap_alloc_old _ _ bS.out.lt)) (mt:=85) Tryz.underlying85 (by kernel_rfl) (t,s)
  have bX:=TabAt.kM (w:=O.drew) (bS.out.fW rfl) (mt:=85) Tryz.underlying85 (by kernel_rfl) (t,s)
  simp only [kV,iX,kP] at cp bX
  go_region
  obtain ⟨w5,dp⟩:∃ w5,w5=(O.alloc (.cells #[.string ⟨((jq (t,s) d.S).getD []).toArray⟩] 195)).drew:=⟨_,rfl⟩
  rw [←dp]
  have R:Below O.heap.size O w5:=by rw [dp];exact ((Below.refl _ O).alloc (ah _) _).drew
  have ho:=ae R
  have U:=ae (fK R er da.out)
  have b0:=ae (fK R dk dc.out)
  have b1:=ae (fK R dl co.out)
  have ab:Hid (TabAt w5 x.r d.S):=ae (bS.out.fW (R.block _ dn))
  have ds:=ae (gg.out.below R)
  have b6:=ae (fb.out.frame (w':=w5) fun b _ J=>R.block b J)
  have dv:Hid (Ext (fun i=>i=h∨i=x.r∨x.log.ownBlock=some i) w w5):=ae (gl.out.trans (Ext.fM R))
  have hf:Hid (O.heap.size≤w5.heap.size):=ae R.size
  clear dp R q0 B E a6 er dk dl dn cp bX
  obtain ⟨hw,dT⟩:∃ hw,hw=(jq (t,s) d.S).isSome:=⟨_,rfl⟩
  rw [←dT]
  have eC:=ae dT
  clear dT
  have q0:=af _ _ 0 _ _ _ b0.out
  have B:=af _ _ 0 _ _ _ b1.out
  have E:=af _ _ 1 _ _ _ b1.out
  have X:=af _ _ 10 _ _ _ U.out
  have cq:=af _ _ 11 _ _ _ U.out
  simp only [bR,bE,aY] at q0 B E X cq
  have a6:w5.cell? ⟨h,10,none⟩=some (.map (some x.r)):=X
  clear X
  have av:=fI U.out
  have Y:=fI b0.out
  have ap:=fI b1.out
  cases hw with
  | true =>
   go_wp2
   go_quiet (fail)
   go_wp2
   have ag:Hid (d.lY (t,s)=true):=ae (by unfold DpS.lY;rw [←eC.out];rfl)
   obtain ⟨u,d0⟩:∃ u,u=w5.drewN nq:=⟨_,rfl⟩
   have a7:Hid (Below w5.heap.size w5 u):=ae (by rw [d0];exact (Below.rf w5).drewN _)
   rw [←d0]
   clear d0
   have F:=ae (fK a7.out av U.out)
   have V:=ae (fK a7.out Y b0.out)
   have a9:=ae (fK a7.out ap b1.out)
   have aE:Hid (TabAt u x.r d.S):=ae (ab.out.fW (a7.out.block _ ab.out.lt))
   have b2:=ae (ds.out.below a7.out)
   have Q:=ae (b6.out.frame (w':=u) fun b _ J=>a7.out.block b J)
   have ba:Hid (Ext (fun i=>i=h∨i=x.r∨x.log.ownBlock=some i) w u):=ae (dv.out.trans (Ext.fM a7.out))
   clear q0 B E a6 cq av Y ap
   have q0:=af _ _ 0 _ _ _ V.out
   have B:=af _ _ 0 _ _ _ a9.out
   have E:=af _ _ 1 _ _ _ a9.out
   have X:=af _ _ 10 _ _ _ F.out
   simp only [bR,bE,aY] at q0 B E X
   have a6:u.cell? ⟨h,10,none⟩=some (.map (some x.r)):=X
   clear X
   have eD:=fI F.out
   have d1:=fI V.out
   have fg:=fI a9.out
   obtain ⟨W1,hu,b3,y,d2⟩:=TabAt.put (w:=u) aE.out (mt:=85) Tryz.underlying85 (t,s) Z
   have b4:=hu 1
   have bb:∀ w:World,w.drewN 1=w.drew:=fun _=>rfl
   rw [bb,bb] at b4
   simp only [kV,iX,kP] at b4
   have bo:=ae b3
   have G:=ae y
   clear hu bb b3 y d2
   go_region
   go_wp2
   go_end0
   have e:d.put (t,s) Z = {d.stop with S:=jJ (t,s) Z d.S,log:=d.log++[L]} := by
    unfold DpS.put
    rw [←I.out.1,hdd,aw (by decide),ag.out,aF rfl,c4.out]
   refine ⟨rfl,.slice C (d.log.length+1) q,?_,?_,bz.out⟩
   ·rw [e]
    have h2:=zW (w:=u) (x:=x) (d:=d) (v := .slice C (d.log.length+1) q) (L:=d.log++[L]) F.out I.out bL.out (by simp) b2.out Q.out c9.out bI.out G.out bo.out ce.out bv.out
    exact ⟨h2.row.fW rfl,h2.left,h2.dead,h2.room,h2.tab.fW rfl,h2.own.frame (w':=W1.drew) (ah _) (fun _ _ _=>rfl),h2.ltyp.frame (w':=W1.drew) (fun _ _ _=>rfl),h2.lo,h2.lb⟩
   ·exact ba.out.trans' (T:=fun i=>i=x.r) (c:=W1.drew) ⟨G.out.os,G.out.tape,G.out.output,G.out.size,fun k hk a5=>G.out.block k hk fun e=>a5 (by cases e;rfl)⟩ fun i e => .inl (.inr (.inl e))
  | false =>
   have gn:=ae fun W hH hT=>zP h {x.stop with log := .slice C (d.log.length+1) q} d.S t W hH hT hS
   obtain ⟨rv,eS⟩:∃ rv,rv=d.vZ t:=⟨_,rfl⟩
   have d3:=ae eS
   have go:Hid (∀ W,HostIs W h {x.stop with log := .slice C (d.log.length+1) q}→Calls Tryz.prog 207 #[.agg #[.pointer (some ⟨h,0,none⟩)],.int .i64 t] W fun e w'=>e = .returned (.int .i64 rv)∧Below W.heap.size W w'):=ae fun W hH=>by
    have h1:=AJ h {x.stop with log := .slice C (d.log.length+1) q} t W hH
    rw [d3.out]
    unfold DpS.vZ
    rw [←bL.out]
    exact h1
   clear eS
   go_wp2
   have eT:Hid (Below w5.heap.size w5 w5.drew):=ae (Below.rf w5).drew
   go_region_held3 (fun w'=>w'.cell? ⟨w.heap.size,0,none⟩=some (.pointer (some ⟨h,0,none⟩))∧w'.cell? ⟨w.heap.size+1,0,none⟩=some (.int .i64 t))
    (first | exact ⟨q0,B⟩ | exact ⟨(m.out.cell (p:=⟨w.heap.size,0,none⟩) Y).trans q0,(m.out.cell (p:=⟨w.heap.size+1,0,none⟩) ap).trans B⟩)
    (first
     | (go_at_call 209;refine (gn.out _ (by first | exact U.out | exact fK m.out av U.out) (by first | exact ab.out.fW rfl | exact ab.out.fW (m.out.block _ ab.out.lt))).mono ?_;rintro e u ⟨rfl,bc⟩;have m:Hid (Below w5.heap.size w5 u):=ae (by first | exact m.out.tn bc | exact eT.out.tn bc);clear bc)
     | (go_at_call 207;refine (go.out _ (by first | exact U.out | exact fK m.out av U.out)).mono ?_;rintro e u ⟨rfl,bc⟩;have m:Hid (Below w5.heap.size w5 u):=ae (by first | exact m.out.tn bc | exact eT.out.tn bc);clear bc))
   by_cases J:(countS t d.S:Int)<rv
   ·go_wp2
    have ag:Hid (d.lY (t,s)=true):=ae (by unfold DpS.lY;rw [←d3.out,dJ,dj];exact .inr J)
    have F:=ae (fK m.out av U.out)
    have V:=ae (fK m.out Y b0.out)
    have a9:=ae (fK m.out ap b1.out)
    have aE:Hid (TabAt u x.r d.S):=ae (ab.out.fW (m.out.block _ ab.out.lt))
    have b2:=ae (ds.out.below m.out)
    have Q:=ae (b6.out.frame (w':=u) fun b _ J=>m.out.block b J)
    have ba:Hid (Ext (fun i=>i=h∨i=x.r∨x.log.ownBlock=some i) w u):=ae (dv.out.trans (Ext.fM m.out))
    clear q0 B E a6 cq av Y ap
    have q0:=af _ _ 0 _ _ _ V.out
    have B:=af _ _ 0 _ _ _ a9.out
    have E:=af _ _ 1 _ _ _ a9.out
    have X:=af _ _ 10 _ _ _ F.out
    simp only [bR,bE,aY] at q0 B E X
    have a6:u.cell? ⟨h,10,none⟩=some (.map (some x.r)):=X
    clear X
    have eD:=fI F.out
    have d1:=fI V.out
    have fg:=fI a9.out
    obtain ⟨W1,hu,b3,y,d2⟩:=TabAt.put (w:=u) aE.out (mt:=85) Tryz.underlying85 (t,s) Z
    have b4:=hu 1
    have bb:∀ w:World,w.drewN 1=w.drew:=fun _=>rfl
    rw [bb,bb] at b4
    simp only [kV,iX,kP] at b4
    have bo:=ae b3
    have G:=ae y
    clear hu bb b3 y d2
    go_region
    go_wp2
    go_end0
    have e:d.put (t,s) Z = {d.stop with S:=jJ (t,s) Z d.S,log:=d.log++[L]} := by
     unfold DpS.put
     rw [←I.out.1,hdd,aw (by decide),ag.out,aF rfl,c4.out]
    refine ⟨rfl,.slice C (d.log.length+1) q,?_,?_,bz.out⟩
    ·rw [e]
     have h2:=zW (w:=u) (x:=x) (d:=d) (v := .slice C (d.log.length+1) q) (L:=d.log++[L]) F.out I.out bL.out (by simp) b2.out Q.out c9.out bI.out G.out bo.out ce.out bv.out
     exact ⟨h2.row.fW rfl,h2.left,h2.dead,h2.room,h2.tab.fW rfl,h2.own.frame (w':=W1.drew) (ah _) (fun _ _ _=>rfl),h2.ltyp.frame (w':=W1.drew) (fun _ _ _=>rfl),h2.lo,h2.lb⟩
    ·exact ba.out.trans' (T:=fun i=>i=x.r) (c:=W1.drew) ⟨G.out.os,G.out.tape,G.out.output,G.out.size,fun k hk a5=>G.out.block k hk fun e=>a5 (by cases e;rfl)⟩ fun i e => .inl (.inr (.inl e))
   ·go_wp2
    have ag:Hid (d.lY (t,s)=false):=ae (by unfold DpS.lY;rw [←eC.out,←d3.out,Bool.false_or,decide_eq_false_iff_not];exact fu.2 (by omega))
    have F:=ae (fK m.out av U.out)
    have V:=ae (fK m.out Y b0.out)
    have aE:Hid (TabAt u x.r d.S):=ae (ab.out.fW (m.out.block _ ab.out.lt))
    have b2:=ae (ds.out.below m.out)
    have Q:=ae (b6.out.frame (w':=u) fun b _ J=>m.out.block b J)
    have ba:Hid (Ext (fun i=>i=h∨i=x.r∨x.log.ownBlock=some i) w u):=ae (dv.out.trans (Ext.fM m.out))
    clear q0 B E a6 cq av Y ap
    have rc:=af _ _ 0 _ _ _ V.out
    have hr:=af _ _ 11 _ _ _ F.out
    have f9:=ao _ _ 11 _ _ F.out
    simp only [bR,bE,aY] at rc hr
    have eD:=fI F.out
    have d1:=fI V.out
    have gp:=ae (Q.out.ne F.out (by decide))
    have fi:=ae (Q.out.qe aE.out)
    have bP:=fun o=>ae (Below.drew (Below.al (Below.rf u) o))
    have ci:=ae (tj u lB)
    have gq:Hid (base≤u.heap.size):=ae (by have:=HB.out;have:=ba.out.size;omega)
    have a3:=fun o=>ae (show _∧_ from ⟨gr o rc,gr o hr⟩)
    refine iz (n:=11) (S:=fun w'=>w'.cell? ⟨w.heap.size,0,none⟩=some (.pointer (some ⟨h,0,none⟩))∧w'.cell? ⟨h,11,none⟩=some (.slice C (d.log.length+1) q)) (by kernel_rfl) (by kernel_rfl) rfl (by first | exact ⟨rc,hr⟩ | exact (a3 _).out) ?_
    intro c5
    simp only [cK,cg,cA,cL,bA,ch,bd,bu,bV,aQ,aX]
    refine wpAnyH_take (i:=0) (v := ?_) rfl (by kernel_rfl) (by kernel_rfl) (by kernel_rfl) (fun _ _ _ h=>h) (Or.inl ⟨by rfl,?_⟩) (by assumption) ?_
    rotate_left 1
    ·(intro w l;(try dsimp only at l);go_simp;(try with_reducible rfl))
    try simp only [Act.put,ai,aj]
    refine wpAnyH_take (i:=1) (v := ?_) rfl (by kernel_rfl) (by kernel_rfl) (by kernel_rfl) (fun _ _ _ h=>h) (Or.inl ⟨by rfl,?_⟩) (by assumption) ?_
    rotate_left 1
    ·(intro w l;(try dsimp only at l);go_simp;(try with_reducible rfl))
    try simp only [Act.put,ai,aj,aq]
    refine wpAnyH_take (i:=2) (v := ?_) rfl (by kernel_rfl) (by kernel_rfl) (by kernel_rfl) (fun _ _ _ h=>h) (Or.inl ⟨by rfl,?_⟩) (by assumption) ?_
    rotate_left 1
    ·(intro w l;(try dsimp only at l);go_simp;(try with_reducible rfl))
    try simp only [Act.put,ai,aj,aq]
    refine wpAnyH_take (i:=3) (v := ?_) rfl (by kernel_rfl) (by kernel_rfl) (by kernel_rfl) (fun _ _ _ h=>h) (Or.inl ⟨by rfl,?_⟩) (by assumption) ?_
    rotate_left 1
    ·(intro w l;(try dsimp only at l);go_simp;(try with_reducible rfl))
    try simp only [Act.put,ai,aj,aq]
    refine wpAnyH_take (i:=4) (v := ?_) rfl (by kernel_rfl) (by kernel_rfl) (by kernel_rfl) (fun _ _ _ h=>h) (Or.inl ⟨by rfl,?_⟩) (by assumption) ?_
    rotate_left 1
    ·(intro w l;(try dsimp only at l);go_simp;(try with_reducible rfl))
    try simp only [Act.put,ai,aj,aq]
    refine wpAnyH_take (i:=5) (v := ?_) rfl (by kernel_rfl) (by kernel_rfl) (by kernel_rfl) (fun _ _ _ h=>h) (Or.inl ⟨by rfl,?_⟩) (by assumption) ?_
    rotate_left 1
    ·(intro w l;(try dsimp only at l);go_simp;(try with_reducible rfl))
    try simp only [Act.put,ai,aj,aq]
    refine wpAnyH_take (i:=6) (v := ?_) rfl (by kernel_rfl) (by kernel_rfl) (by kernel_rfl) (fun _ _ _ h=>h) (Or.inl ⟨by rfl,?_⟩) (by assumption) ?_
    rotate_left 1
    ·(intro w l;(try dsimp only at l);go_simp;(try with_reducible rfl))
    try simp only [Act.put,ai,aj,aq]
    refine wpAnyH_ready (rs:=[7]) (by kernel_rfl) (by simp) ?_
    refine AllReadyH.cons rfl ?_ AllReadyH.nil
    intro K' hK'
    go_simp
    refine hK'.out _ _ (by first | exact ⟨rc,hr⟩ | exact (a3 _).out) ?_
    clear hK' K'
    intro c6
    try simp only [ai,aj,aq]
    refine wpAnyH_ready (rs:=[8]) (by kernel_rfl) (by simp) ?_
    refine AllReadyH.cons rfl ?_ AllReadyH.nil
    intro K' hK'
    refine mh rfl (.tmp 70) (.tmp 71) rfl base (.slice C (d.log.length+1) q) (d.log.length+1) (d.log++[L]) (by simp) rfl (by exact b2.out.below (bP _).out) (by exact Q.out.frame fun b _ hs=>(bP _).out.block b hs) [lB] (by exact ci.out) (by have:=d9.out;simp;omega) (by have:=gq.out;simp;omega) ?_;intro v7 w7 bD y bH eV;obtain ⟨b5,bi,rfl⟩:=bD.shape;have br:=ae (iJ y gp.out (fQ _ (.cells #[.string ⟨#[110,111,32,114,111,111,109]⟩] 9) F.out));have gs:=ae (iJ y (Q.out.ne V.out (by decide)) (fQ _ (.cells #[.string ⟨#[110,111,32,114,111,111,109]⟩] 9) V.out));refine hK'.out _ _ ⟨af _ _ 0 _ _ _ gs.out,af _ _ 11 _ _ _ br.out⟩ ?_
    clear hK' K'
    intro c7
    try simp only [Act.put,ai,aj,aq]
    refine wpAnyH_take (i:=9) (v := ?_) rfl (by kernel_rfl) (by kernel_rfl) (by kernel_rfl) (fun _ _ _ h=>h) (Or.inl ⟨by rfl,?_⟩) (by assumption) ?_
    rotate_left 1
    ·(intro w l;(try dsimp only at l);go_simp;(try with_reducible rfl))
    try simp only [Act.put,ai,aj,aq]
    refine wpAnyH_take (i:=10) (v := ?_) rfl (by kernel_rfl) (by kernel_rfl) (by kernel_rfl) (fun _ _ _ h=>h) (Or.inl ⟨by rfl,?_⟩) (by assumption) ?_
    rotate_left 1
    ·(intro w l;(try dsimp only at l);go_simp;(try with_reducible rfl))
    try simp only [Act.put,ai,aj,aq]
    refine wpAnyH_done (by kernel_rfl) ?_ _
    show Oper.wp _ _ _ _ _ _
    have hx:=af _ _ 11 _ _ _ br.out
    have g9:=ao _ _ 11 _ _ br.out
    have hp:=fI br.out
    have fk:Hid (u.heap.size≤w7.heap.size):=ae (by have:=y.size;simp at this;omega)
    have e0:=ae (bH.ne br.out (by decide))
    have bo:Hid (TabAt w7 x.r d.S):=ae (aE.out.fW ((y.block _ (by simp;have:=aE.out.lt;omega) (fun e=>fi.out e.symm)).trans (heap_alloc_old _ _ aE.out.lt)))
    have hh:=ae (bH.qe bo.out)
    have gt:=ae bD
    have fl:=ae bH
    have gu:Hid (∀ i,(Value.slice C (d.log.length+1) q).ownBlock=some i→x.log.ownBlock=some i∨w.heap.size≤i):=bz
    have e1:Hid (Ext (fun i=>i=h∨i=x.r∨x.log.ownBlock=some i) w w7):=ae (ba.out.trans' (T:=fun i=>(Value.slice C (d.log.length+1) q).ownBlock=some i) ⟨y.os,y.tape,y.output,fk.out,fun i hi a5=>(y.block i (by simp;omega) (fun e=>a5 e.symm)).trans (heap_alloc_old _ _ hi)⟩ fun i e=>(gu.out i e).imp (fun e => .inr (.inr e)) id)
    have fn:Hid (∀ i,(Value.slice b5 (d.log.length+1+1) bi).ownBlock=some i→x.log.ownBlock=some i∨w.heap.size≤i):=ae (fun i e=>(eV i e).elim (fun M=>bz.out i M) fun M => .inr (by have:=ba.out.size;rw [M];simp;omega))
    clear bD y bH eV rc hr f9
    go_wp2
    go_end0
    obtain ⟨w8,cr⟩:∃ w8,w8=w7.setCell ⟨h,11,none⟩ (.slice b5 (d.log.length+1+1) bi):=⟨_,rfl⟩
    have D:∀ j,j≠h→w8.heap[j]?=w7.heap[j]?:=fun j ht=>by rw [cr];exact Below.heap_setCell _ ⟨h,11,none⟩ _ j ht
    have fo:Hid (w8.heap.size=w7.heap.size):=ae (by rw [cr,size_setCell])
    have gv:Hid (HostIs w8 h {x.stop with log := .slice b5 (d.log.length+1+1) bi}):=ae (by rw [cr];exact heap_setCell _ _ 11 _ br.out)
    have e:d.put (t,s) Z = {d.stop with log:=d.log++[L]++[lB]} := by
     unfold DpS.put
     rw [←I.out.1,hdd,aw (by decide),ag.out,aw (by decide),c4.out]
    refine ⟨rfl,.slice b5 (d.log.length+1+1) bi,?_,?_,fn.out⟩
    ·rw [e]
     have hy:=gt.out.frame (w':=w8) (by have:=fo.out;omega) fun b e _=>D b fun M=>e0.out (by rw [e,M])
     have gz:=fl.out.frame (w':=w8) fun b e _=>D b fun M=>e0.out (by rw [e,M])
     have h2:DpAt w8 base h {x with left:=d.stop.left,dead:=d.stop.dead,log := .slice b5 (d.log.length+1+1) bi} {d.stop with log:=d.log++[L]++[lB]} := by
      refine ⟨?_,rfl,rfl,bL.out,bo.out.fW (D _ (dx bI.out)),?_,gz,ce.out,bv.out⟩
      ·have h1:=gv.out
       unfold HostIs HV.cells at h1⊢
       simp only [I.out.1,I.out.2] at h1⊢
       exact h1
      ·show OwnS w8 base 1 _ (d.log++[L]++[lB]).length _
       rw [show (d.log++[L]++[lB]).length=d.log.length+1+1 by simp]
       exact hy
     rw [cr] at h2
     first
      | exact h2
      | exact ⟨h2.row.fW rfl,h2.left,h2.dead,h2.room,h2.tab.fW rfl,h2.own.frame (ah _) (fun _ _ _=>rfl),h2.ltyp.frame (fun _ _ _=>rfl),h2.lo,h2.lb⟩
    ·first
      | exact e1.out.setCell _ _ (.inl (.inl rfl))
      | exact (e1.out.setCell _ _ (.inl (.inl rfl))).drew
end Go.Proofs.YtkkfmkhbdoeglaaGreatDoor
