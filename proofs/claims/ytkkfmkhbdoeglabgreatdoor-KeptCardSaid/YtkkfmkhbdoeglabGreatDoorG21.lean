/- A part of what is proved here: lemmas and contracts of single functions. No condition but those that each names. -/
import Derived.Test.YtkkfmkhbdoeglabGreatDoorG00
import Derived.BigQuiet
import Derived.Deep.QuietTactic
import Derived.Test.YtkkfmkhbdoeglabGreatDoorG20
set_option maxHeartbeats 4000000
set_option maxRecDepth 100000
namespace Go.Proofs.YtkkfmkhbdoeglabGreatDoor
open Go.RowKit Go.Shelf
theorem Av {w l:World} {base h:Nat} {x:HV} {d:DpS} {v:Value} {L:List (List UInt8)} {S':List E} (m:HostIs w h {x.stop with log:=v}) (o:x.stop.dead=d.stop.dead∧x.stop.left=d.stop.left) (u:x.room=d.room)
  {n:Nat} (J:n=L.length) (M:OwnS w base 1 v n (strsV L)) (y:CellsOf w v 9) (B:v.ownBlock≠some x.r) (C:h≠x.r) (D:w.grownBy l (some x.r)) (N:TabAt l x.r S') (F:base≤h∧base≤x.r) (G : -1≤d.stop.left∧d.stop.left≤9223372036854775807) :
  DpAt l base h {x with left:=d.stop.left,dead:=d.stop.dead,log:=v} {d.stop with S:=S',log:=L} := by
 subst J
 have q:∀ b,v.ownBlock=some b→b≠x.r:=fun b O Q=>B (by rw [←Q];exact O)
 have i:∀ j,j≠x.r→j<w.heap.size→l.heap[j]?=w.heap[j]?:=fun j R I=>D.block j I (fun e=>R (by cases e;rfl))
 refine ⟨?_,rfl,rfl,u,N,M.frame D.size fun b e s=>i b (q b e) s,y.frame fun b e s=>i b (q b e) s,F,G⟩
 unfold HostIs HV.cells at m⊢
 rw [i h C (fO m)]
 simp only [o.1,o.2] at m⊢
 exact m
theorem Eo (base h:Nat) (x:HV) (d:DpS) (t:Int) (s Z:List UInt8) (w:World) (hd:DpAt w base h x d) (hp:base≤w.heap.size) (d7:d.log.length≤8000000000000) (hk:s.length≤gF) (hv:Z.length≤gF) (hS:d.S.length≤1000000000) :
  Calls Tryz.prog 60 #[.agg #[.pointer (some ⟨h,0,none⟩)],.agg #[.int .i64 t,.string ⟨s.toArray⟩],.string ⟨Z.toArray⟩] w (BP base h x (d.put (t,s) Z) w):=by
 have cB:Below w.heap.size w ((w.alloc (.cells #[.pointer (some ⟨h,0,none⟩)] 116)).alloc (.cells #[.int .i64 t,.string ⟨s.toArray⟩] 103)):=((Below.refl _ w).alloc (af _) _).alloc (by simp) _
 have R0:=fX _ (.cells #[.int .i64 t,.string ⟨s.toArray⟩] 103) (fR w (.cells #[.pointer (some ⟨h,0,none⟩)] 116))
 have R1:=fR (w.alloc (.cells #[.pointer (some ⟨h,0,none⟩)] 116)) (.cells #[.int .i64 t,.string ⟨s.toArray⟩] 103)
 rw [aw] at R1
 have rc:=ae _ _ 0 _ _ _ R0
 obtain ⟨am,b8,ca,cb,a2,c0,a1,d8,d9⟩:=hd
 have J:=fO am
 have H0:=am.gr (cB.block h J)
 have HW:=ab cB
 have HK:=ab (vI t)
 have lo : -1≤x.left:=by omega
 have hr:x.left≤9223372036854775807:=by omega
 have fo:=ab (oA h x _ H0 lo hr)
 have c1:=ab (a1.ne am (by decide))
 have bI:=ab (a2.jZ am)
 have fp:=ab (a1.qk a2)
 have e4:Hid (x.r<w.heap.size):=ab a2.lt
 have ce:=ab d8
 have fr:=ab d9
 have HL:=ab b8
 have HD:=ab ca
 have bL:=ab cb
 have HT:=ab a2
 have HO:=ab c0
 have fv:=ab a1
 have fz:=ab R0
 have fB:=ab R1
 have HB:=ab hp
 have ea:=ab d7
 have g5:=ab am
 clear d8 d9 b8 ca cb a2 c0 a1 R0 R1 cB H0 lo hr hp d7 am
 go_enter Tryz.func60,Tryz.ntmps60
 go_wp2_with fail
 refine fo.out.mono ?_
 rintro e w2 ⟨rfl,eb,c2,ci⟩
 have c3:w.heap.size≠h:=by omega
 have c4:w.heap.size+1≠h:=by omega
 have bs:=ab (ci.at c3 fz.out)
 have a3:=ab (ci.at c4 fB.out)
 have bM:=ab eb
 have f1:=ab ci
 have ec:Hid (w2.heap.size=w.heap.size+2):=ab (by rw [c2];simp)
 clear eb ci c2 rc c3 c4
 have rc:=ae _ _ 0 _ _ _ bs.out
 have bN:Hid (Ext (fun i=>i=h) w w2):=ab ((Ext.fT HW.out).trans f1.out)
 have ed:Hid (Ext (fun i=>i=h∨i=x.r∨x.log.ownBlock=some i) w w2):=ab (bN.out.mono fun i e => .inl e)
 have eg:Hid (OwnS w2 base 1 x.log d.log.length (strsV d.log)):=ab (HO.out.frame bN.out.size fun b e hp=>bN.out.block b hp fun M=>c1.out (by rw [e,M]))
 have bt:Hid (CellsOf w2 x.log 9):=ab (fv.out.frame fun b e hp=>bN.out.block b hp fun M=>c1.out (by rw [e,M]))
 have bO:Hid (TabAt w2 x.r d.S):=ab (HT.out.gr (bN.out.block _ e4.out (dx bI.out)))
 have I:Hid (x.stop.dead=d.stop.dead∧x.stop.left=d.stop.left):=ab (by unfold HV.stop DpS.stop;rw [HL.out,HD.out];exact ⟨rfl,rfl⟩)
 have bv:Hid (-1≤d.stop.left∧d.stop.left≤9223372036854775807):=ab (by have:=fr.out;unfold DpS.stop;simp only;split <;> omega)
 cases hdd:x.stop.dead with
 | true =>
  go_wp2
  refine aI (dF rfl _ _ _) rfl ?_
  have e:d.put (t,s) Z=d.stop:=by unfold DpS.put;rw [←I.out.1,hdd];rfl
  refine ⟨rfl,x.log,?_,ed.out,fun i e => .inl e⟩
  rw [e,←I.out.1,←I.out.2]
  exact ⟨bM.out,I.out.2,I.out.1,bL.out,bO.out,eg.out,bt.out,ce.out,bv.out⟩
 | false =>
  unfold HostIs HV.cells at *
  have hn:=ae _ _ 11 _ _ _ bM.out
  have f9:=aj _ _ 11 _ _ bM.out
  have B:=ae _ _ 0 _ _ _ a3.out
  have E:=ae _ _ 1 _ _ _ a3.out
  have hg:=fO bM.out
  have hh:=fO a3.out
  have g6:=fO bs.out
  have f2:Hid (BytesAt (w2.alloc (.cells #[.int .u8 (IntKind.u8.wrap t)] 5)) (.slice (some ⟨w2.heap.size,0,none⟩) 1 1) [lX t]):=ab (by rw [←HK.out];exact qn w2 (lX t))
  go_wp2
  have hcv:=BytesAt.convert (w:=(w2.alloc (.cells #[.int .u8 (IntKind.u8.wrap t)] 5)).drew) (by exact f2.out)
  unfold gF at hk hv
  have f3:=fun W=>qW (P:=Tryz.prog) [112,117,116,32] [lX t] (by simp) W
  have f4:=fun W=>qW (P:=Tryz.prog) [112,117,116,32,lX t] s (by simp;omega) W
  have f5:=fun W=>qW (P:=Tryz.prog) (112::117::116::32::lX t::s) [61] (by simp;omega) W
  have f6:=fun W=>qW (P:=Tryz.prog) (112::117::116::32::lX t::(s++[61])) Z (by simp;omega) W
  have bP:=fun o o'=>ab (Below.drew (Below.al (Below.al (Below.rf w2) o) o'))
  obtain ⟨L,hL⟩:∃ L,L=112::117::116::32::lX t::(s++61::Z):=⟨_,rfl⟩
  have c5:Hid (sR (t,s) Z=L):=ab (by rw [hL];simp [sR])
  have cl:=ab (tQ (w2.alloc (.cells #[.int .u8 (IntKind.u8.wrap t)] 5)) L)
  rw [aw,hL] at cl
  simp only [bQ,bB,aY] at rc B E hn
  have a4:=fun o=>ab (show _∧_∧_∧_ from ⟨gC o rc,gC o B,gC o E,gC o hn⟩)
  have co:=fun o o'=>ab (show _∧_∧_∧_ from ⟨gC o' (gC o rc),gC o' (gC o B),gC o' (gC o E),gC o' (gC o hn)⟩)
  refine iB (n:=23) (S:=fun w'=>w'.cell? ⟨w.heap.size,0,none⟩=some (.pointer (some ⟨h,0,none⟩))∧w'.cell? ⟨w.heap.size+1,0,none⟩=some (.int .i64 t)∧w'.cell? ⟨w.heap.size+1,1,none⟩=some (.string ⟨s.toArray⟩)∧w'.cell? ⟨h,11,none⟩=some x.stop.log) (by kernel_rfl) (by kernel_rfl) rfl (by first | exact ⟨rc,B,E,hn⟩ | exact (a4 _).out | exact (co _ _).out) ?_
  intro c6
  simp only [cI,cc,cy,cJ,bA,cd,bf,bu,bT,aO,aX]
  refine wpAnyH_take (i:=0) (v := ?_) rfl (by kernel_rfl) (by kernel_rfl) (by kernel_rfl) (fun _ _ _ h=>h) (Or.inl ⟨by rfl,?_⟩) (by assumption) ?_
  rotate_left 1
  ·(intro w l;(try dsimp only at l);go_simp;(try with_reducible rfl))
  try simp only [Act.put,ah,ai]
  refine wpAnyH_take (i:=1) (v := ?_) rfl (by kernel_rfl) (by kernel_rfl) (by kernel_rfl) (fun _ _ _ h=>h) (Or.inl ⟨by rfl,?_⟩) (by assumption) ?_
  rotate_left 1
  ·(intro w l;(try dsimp only at l);go_simp;(try with_reducible rfl))
  try simp only [Act.put,ah,ai,ao]
  refine wpAnyH_take (i:=2) (v := ?_) rfl (by kernel_rfl) (by kernel_rfl) (by kernel_rfl) (fun _ _ _ h=>h) (Or.inl ⟨by rfl,?_⟩) (by assumption) ?_
  rotate_left 1
  ·(intro w l;(try dsimp only at l);go_simp;(try with_reducible rfl))
  try simp only [Act.put,ah,ai,ao]
  refine wpAnyH_take (i:=3) (v := ?_) rfl (by kernel_rfl) (by kernel_rfl) (by kernel_rfl) (fun _ _ _ h=>h) (Or.inl ⟨by rfl,?_⟩) (by assumption) ?_
  rotate_left 1
  ·(intro w l;(try dsimp only at l);go_simp;(try with_reducible rfl))
  try simp only [Act.put,ah,ai,ao]
  refine wpAnyH_take (i:=4) (v := ?_) rfl (by kernel_rfl) (by kernel_rfl) (by kernel_rfl) (fun _ _ _ h=>h) (Or.inl ⟨by rfl,?_⟩) (by assumption) ?_
  rotate_left 1
  ·(intro w l;(try dsimp only at l);go_simp;(try with_reducible rfl))
  try simp only [Act.put,ah,ai,ao]
  refine wpAnyH_take (i:=5) (v := ?_) rfl (by kernel_rfl) (by kernel_rfl) (by kernel_rfl) (fun _ _ _ h=>h) (Or.inl ⟨by rfl,?_⟩) (by assumption) ?_
  rotate_left 1
  ·(intro w l;(try dsimp only at l);go_simp;(try with_reducible rfl))
  try simp only [Act.put,ah,ai,ao]
  refine wpAnyH_take (i:=6) (v := ?_) rfl (by kernel_rfl) (by kernel_rfl) (by kernel_rfl) (fun _ _ _ h=>h) (Or.inl ⟨by rfl,?_⟩) (by assumption) ?_
  rotate_left 1
  ·(intro w l;(try dsimp only at l);go_simp;(try with_reducible rfl))
  try simp only [Act.put,ah,ai,ao]
  refine wpAnyH_take (i:=7) (v := ?_) rfl (by kernel_rfl) (by kernel_rfl) (by kernel_rfl) (fun _ _ _ h=>h) (Or.inl ⟨by rfl,?_⟩) (by assumption) ?_
  rotate_left 1
  ·(intro w l;(try dsimp only at l);go_simp;(try with_reducible rfl))
  try simp only [Act.put,ah,ai,ao]
  refine wpAnyH_take (i:=8) (v := ?_) rfl (by kernel_rfl) (by kernel_rfl) (by kernel_rfl) (fun _ _ _ h=>h) (Or.inl ⟨by rfl,?_⟩) (by assumption) ?_
  rotate_left 1
  ·(intro w l;(try dsimp only at l);go_simp;(try with_reducible rfl))
  try simp only [Act.put,ah,ai,ao]
  refine wpAnyH_take (i:=9) (v := ?_) rfl (by kernel_rfl) (by kernel_rfl) (by kernel_rfl) (fun _ _ _ h=>h) (Or.inl ⟨by rfl,?_⟩) (by assumption) ?_
  rotate_left 1
  ·(intro w l;(try dsimp only at l);go_simp;(try with_reducible rfl))
  try simp only [Act.put,ah,ai,ao]
  refine wpAnyH_take (i:=13) (v := ?_) rfl (by kernel_rfl) (by kernel_rfl) (by kernel_rfl) (fun _ _ _ h=>h) (Or.inl ⟨by rfl,?_⟩) (by assumption) ?_
  rotate_left 1
  ·(intro w l;(try dsimp only at l);go_simp;(try with_reducible rfl))
  try simp only [Act.put,ah,ai,ao]
  refine wpAnyH_take (i:=14) (v := ?_) rfl (by kernel_rfl) (by kernel_rfl) (by kernel_rfl) (fun _ _ _ h=>h) (Or.inl ⟨by rfl,?_⟩) (by assumption) ?_
  rotate_left 1
  ·(intro w l;(try dsimp only at l);go_simp;(try with_reducible rfl))
  try simp only [Act.put,ah,ai,ao]
  refine wpAnyH_take (i:=17) (v := ?_) rfl (by kernel_rfl) (by kernel_rfl) (by kernel_rfl) (fun _ _ _ h=>h) (Or.inl ⟨by rfl,?_⟩) (by assumption) ?_
  rotate_left 1
  ·(intro w l;(try dsimp only at l);go_simp;(try with_reducible rfl))
  try simp only [Act.put,ah,ai,ao]
  refine wpAnyH_ready (rs:=[10]) (by kernel_rfl) (by simp) ?_
  refine AllReadyH.cons rfl ?_ AllReadyH.nil
  intro K' hK'
  go_simp
  refine hK'.out _ _ (by first | exact ⟨rc,B,E,hn⟩ | exact (a4 _).out | exact (co _ _).out) ?_
  clear hK' K'
  intro c7
  try simp only [ah,ai,ao]
  refine wpAnyH_ready (rs:=[11]) (by kernel_rfl) (by simp) ?_
  refine AllReadyH.cons rfl ?_ AllReadyH.nil
  intro K' hK'
  go_simp
  refine hK'.out _ _ (by first | exact ⟨rc,B,E,hn⟩ | exact (a4 _).out | exact (co _ _).out) ?_
  clear hK' K'
  intro c8
  try simp only [ah,ai,ao]
  refine wpAnyH_take (i:=12) (v := ?_) rfl (by kernel_rfl) (by kernel_rfl) (by kernel_rfl) (fun _ _ _ h=>h) (Or.inl ⟨by rfl,?_⟩) (by assumption) ?_
  rotate_left 1
  ·(intro w l;(try dsimp only at l);go_simp;(try with_reducible rfl))
  try simp only [Act.put,ah,ai,ao]
  refine wpAnyH_take (i:=15) (v := ?_) rfl (by kernel_rfl) (by kernel_rfl) (by kernel_rfl) (fun _ _ _ h=>h) (Or.inl ⟨by rfl,?_⟩) (by assumption) ?_
  rotate_left 1
  ·(intro w l;(try dsimp only at l);go_simp;(try with_reducible rfl))
  try simp only [Act.put,ah,ai,ao]
  refine wpAnyH_take (i:=16) (v := ?_) rfl (by kernel_rfl) (by kernel_rfl) (by kernel_rfl) (fun _ _ _ h=>h) (Or.inl ⟨by rfl,?_⟩) (by assumption) ?_
  rotate_left 1
  ·(intro w l;(try dsimp only at l);go_simp;(try with_reducible rfl))
  try simp only [Act.put,ah,ai,ao]
  refine wpAnyH_take (i:=18) (v := ?_) rfl (by kernel_rfl) (by kernel_rfl) (by kernel_rfl) (fun _ _ _ h=>h) (Or.inl ⟨by rfl,?_⟩) (by assumption) ?_
  rotate_left 1
  ·(intro w l;(try dsimp only at l);go_simp;(try with_reducible rfl))
  try simp only [Act.put,ah,ai,ao]
  refine wpAnyH_ready (rs:=[19]) (by kernel_rfl) (by simp) ?_
  refine AllReadyH.cons rfl ?_ AllReadyH.nil
  intro K' hK'
  go_simp
  refine hK'.out _ _ (by first | exact ⟨rc,B,E,hn⟩ | exact (a4 _).out | exact (co _ _).out) ?_
  clear hK' K'
  intro e5
  try simp only [ah,ai,ao]
  refine wpAnyH_ready (rs:=[20]) (by kernel_rfl) (by simp) ?_
  refine AllReadyH.cons rfl ?_ AllReadyH.nil
  intro K' hK'
  refine mz rfl (.tmp 17) (.tmp 30) rfl base _ _ d.log rfl rfl (by exact eg.out.below (bP _ _).out) (by exact bt.out.frame fun b _ hp=>(bP _ _).out.block b hp) [L] (by rw [hL];exact cl.out) (by have:=ea.out;simp;omega) (by have:=HB.out;have:=ec.out;simp;omega) ?_;intro v3 w3 bw N bx ej;obtain ⟨C,q,rfl⟩:=bw.shape;rw [←hL] at N;have bl:=ab (iN N c1.out (fX _ (.cells #[.string ⟨L.toArray⟩] 9) (fX _ (.cells #[.int .u8 (IntKind.u8.wrap t)] 5) bM.out)));have el:=ab (iN N (bt.out.ne bs.out (by decide)) (fX _ (.cells #[.string ⟨L.toArray⟩] 9) (fX _ (.cells #[.int .u8 (IntKind.u8.wrap t)] 5) bs.out)));have c9:=ab (iN N (bt.out.ne a3.out (by decide)) (fX _ (.cells #[.string ⟨L.toArray⟩] 9) (fX _ (.cells #[.int .u8 (IntKind.u8.wrap t)] 5) a3.out)));refine hK'.out _ _ ⟨ae _ _ 0 _ _ _ el.out,ae _ _ 0 _ _ _ c9.out,ae _ _ 1 _ _ _ c9.out,ae _ _ 11 _ _ _ bl.out⟩ ?_
  clear hK' K'
  intro e6
  try simp only [Act.put,ah,ai,ao]
  refine wpAnyH_take (i:=21) (v := ?_) rfl (by kernel_rfl) (by kernel_rfl) (by kernel_rfl) (fun _ _ _ h=>h) (Or.inl ⟨by rfl,?_⟩) (by assumption) ?_
  rotate_left 1
  ·(intro w l;(try dsimp only at l);go_simp;(try with_reducible rfl))
  try simp only [Act.put,ah,ai,ao]
  refine wpAnyH_take (i:=22) (v := ?_) rfl (by kernel_rfl) (by kernel_rfl) (by kernel_rfl) (fun _ _ _ h=>h) (Or.inl ⟨by rfl,?_⟩) (by assumption) ?_
  rotate_left 1
  ·(intro w l;(try dsimp only at l);go_simp;(try with_reducible rfl))
  try simp only [Act.put,ah,ai,ao]
  refine wpAnyH_done (by kernel_rfl) ?_ _
  show Oper.wp _ _ _ _ _ _
  have hw:=ae _ _ 11 _ _ _ bl.out
  have g9:=aj _ _ 11 _ _ bl.out
  have hi:=fO bl.out
  have f8:Hid (w2.heap.size≤w3.heap.size):=ab (by have:=N.size;simp at this;omega)
  have em:=ab (bx.ne bl.out (by decide))
  have en:Hid (TabAt w3 x.r d.S):=ab (bO.out.gr ((N.block _ (by simp;have:=bO.out.lt;omega) (fun e=>fp.out e.symm)).trans ((heap_alloc_old _ _ (by simp;have:=bO.out.lt;omega)).trans (heap_alloc_old _ _ bO.out.lt))))
  have da:=ab (bx.qk en.out)
  have ga:=ab bw
  have e7:=ab bx
  have bz:Hid (∀ i,(Value.slice C (d.log.length+1) q).ownBlock=some i→x.log.ownBlock=some i∨w.heap.size≤i):=ab (fun i e=>(ej i e).imp id fun M=>by have:=ec.out;rw [M];simp;omega)
  have gb:Hid (Ext (fun i=>x.log.ownBlock=some i) w2 w3):=ab ⟨N.os,N.tape,N.output,f8.out,fun i hr a6=>(N.block i (by simp;omega) (fun e=>a6 e.symm)).trans ((heap_alloc_old _ _ (by simp;omega)).trans (heap_alloc_old _ _ hr))⟩
  clear bw N bx ej
  go_wp2
  obtain ⟨O,bn⟩:∃ O,O=w3.setCell ⟨h,11,none⟩ (.slice C (d.log.length+1) q):=⟨_,rfl⟩
  rw [←bn]
  have D:∀ j,j≠h→O.heap[j]?=w3.heap[j]?:=fun j hs=>by rw [bn];exact Below.heap_setCell _ ⟨h,11,none⟩ _ j hs
  have e9:Hid (O.heap.size=w3.heap.size):=ab (by rw [bn,size_setCell])
  have dc:Hid (HostIs O h {x.stop with log := .slice C (d.log.length+1) q}):=ab (by rw [bn];exact heap_setCell _ _ 11 _ bl.out)
  have dk:=ab ((D _ (by omega:w.heap.size≠h)).trans el.out)
  have cp:=ab ((D _ (by omega:w.heap.size+1≠h)).trans c9.out)
  have bS:Hid (TabAt O x.r d.S):=ab (en.out.gr (D _ (dx bI.out)))
  have gc:=ab (ga.out.frame (w':=O) (by have:=e9.out;omega) fun b e _=>D b fun M=>em.out (by rw [e,M]))
  have fa:=ab (e7.out.frame (w':=O) fun b e _=>D b fun M=>em.out (by rw [e,M]))
  have ge:Hid (Ext (fun i=>i=h∨i=x.r∨x.log.ownBlock=some i) w O):=ab (by rw [bn];exact (ed.out.trans (gb.out.mono fun i e => .inr (.inr e))).setCell _ _ (.inl (.inl rfl)))
  clear bn D rc B E hn f9 hw g9 hcv f3 f4 f5 f6 c6 c7 c8 e5 e6
  unfold HostIs HV.cells at *
  have q0:=ae _ _ 0 _ _ _ dk.out
  have B:=ae _ _ 0 _ _ _ cp.out
  have E:=ae _ _ 1 _ _ _ cp.out
  have X:=ae _ _ 10 _ _ _ dc.out
  simp only [bQ,bB,aY] at q0 B E X
  have a7:O.cell? ⟨h,10,none⟩=some (.map (some x.r)):=X
  clear X
  have er:=fO dc.out
  have dl:=fO dk.out
  have dn:=fO cp.out
  have dp:=bS.out.lt
  have cq:=fun o=>TabAt.kT (w:=(O.alloc o).drew) (bS.out.gr (heap_alloc_old _ _ bS.out.lt)) (mt:=123) Tryz.underlying123 (by kernel_rfl) (t,s)
  have bX:=TabAt.kT (w:=O.drew) (bS.out.gr rfl) (mt:=123) Tryz.underlying123 (by kernel_rfl) (t,s)
  simp only [kV,jh,kU] at cq bX
  go_region
  obtain ⟨w5,ds⟩:∃ w5,w5=(O.alloc (.cells #[.string ⟨((jB (t,s) d.S).getD []).toArray⟩] 179)).drew:=⟨_,rfl⟩
  rw [←ds]
  have R:Below O.heap.size O w5:=by rw [ds];exact ((Below.refl _ O).alloc (af _) _).drew
  have hj:=ab R
  have U:=ab (fQ R er dc.out)
  have b0:=ab (fQ R dl dk.out)
  have b1:=ab (fQ R dn cp.out)
  have ag:Hid (TabAt w5 x.r d.S):=ab (bS.out.gr (R.block _ dp))
  have dv:=ab (gc.out.below R)
  have b6:=ab (fa.out.frame (w':=w5) fun b _ J=>R.block b J)
  have dT:Hid (Ext (fun i=>i=h∨i=x.r∨x.log.ownBlock=some i) w w5):=ab (ge.out.trans (Ext.fT R))
  have g7:Hid (O.heap.size≤w5.heap.size):=ab R.size
  clear ds R q0 B E a7 er dl dn dp cq bX
  obtain ⟨ht,d0⟩:∃ ht,ht=(jB (t,s) d.S).isSome:=⟨_,rfl⟩
  rw [←d0]
  have eC:=ab d0
  clear d0
  have q0:=ae _ _ 0 _ _ _ b0.out
  have B:=ae _ _ 0 _ _ _ b1.out
  have E:=ae _ _ 1 _ _ _ b1.out
  have X:=ae _ _ 10 _ _ _ U.out
  have cr:=ae _ _ 11 _ _ _ U.out
  simp only [bQ,bB,aY] at q0 B E X cr
  have a7:w5.cell? ⟨h,10,none⟩=some (.map (some x.r)):=X
  clear X
  have aE:=fO U.out
  have Y:=fO b0.out
  have av:=fO b1.out
  cases ht with
  | true =>
   go_wp2
   go_quiet (fail)
   go_wp2
   have ak:Hid (d.l9 (t,s)=true):=ab (by unfold DpS.l9;rw [←eC.out];rfl)
   obtain ⟨u,d1⟩:∃ u,u=w5.drewN nq:=⟨_,rfl⟩
   have a9:Hid (Below w5.heap.size w5 u):=ab (by rw [d1];exact (Below.rf w5).drewN _)
   rw [←d1]
   clear d1
   have F:=ab (fQ a9.out aE U.out)
   have V:=ab (fQ a9.out Y b0.out)
   have ba:=ab (fQ a9.out av b1.out)
   have a0:Hid (TabAt u x.r d.S):=ab (ag.out.gr (a9.out.block _ ag.out.lt))
   have b2:=ab (dv.out.below a9.out)
   have Q:=ab (b6.out.frame (w':=u) fun b _ J=>a9.out.block b J)
   have bb:Hid (Ext (fun i=>i=h∨i=x.r∨x.log.ownBlock=some i) w u):=ab (dT.out.trans (Ext.fT a9.out))
   clear q0 B E a7 cr aE Y av
   have q0:=ae _ _ 0 _ _ _ V.out
   have B:=ae _ _ 0 _ _ _ ba.out
   have E:=ae _ _ 1 _ _ _ ba.out
   have X:=ae _ _ 10 _ _ _ F.out
   simp only [bQ,bB,aY] at q0 B E X
   have a7:u.cell? ⟨h,10,none⟩=some (.map (some x.r)):=X
   clear X
   have eD:=fO F.out
   have d2:=fO V.out
   have fc:=fO ba.out
   obtain ⟨W1,hu,b3,y,d3⟩:=TabAt.put (w:=u) a0.out (mt:=123) Tryz.underlying123 (t,s) Z
   have b4:=hu 1
   have bc:∀ w:World,w.drewN 1=w.drew:=fun _=>rfl
   rw [bc,bc] at b4
   simp only [kV,jh,kU] at b4
   have bo:=ab b3
   have G:=ab y
   clear hu bc b3 y d3
   go_region
   go_wp2
   go_end0
   have e:d.put (t,s) Z = {d.stop with S:=ke (t,s) Z d.S,log:=d.log++[L]} := by
    unfold DpS.put
    rw [←I.out.1,hdd,au (by decide),ak.out,aD rfl,c5.out]
   refine ⟨rfl,.slice C (d.log.length+1) q,?_,?_,bz.out⟩
   ·rw [e]
    have h2:=Av (w:=u) (x:=x) (d:=d) (v := .slice C (d.log.length+1) q) (L:=d.log++[L]) F.out I.out bL.out (by simp) b2.out Q.out da.out bI.out G.out bo.out ce.out bv.out
    exact ⟨h2.row.gr rfl,h2.left,h2.dead,h2.room,h2.tab.gr rfl,h2.own.frame (w':=W1.drew) (af _) (fun _ _ _=>rfl),h2.ltyp.frame (w':=W1.drew) (fun _ _ _=>rfl),h2.lo,h2.lb⟩
   ·exact bb.out.trans' (T:=fun i=>i=x.r) (c:=W1.drew) ⟨G.out.os,G.out.tape,G.out.output,G.out.size,fun k hk a6=>G.out.block k hk fun e=>a6 (by cases e;rfl)⟩ fun i e => .inl (.inr (.inl e))
  | false =>
   have gf:=ab fun W hH hT=>An h {x.stop with log := .slice C (d.log.length+1) q} d.S t W hH hT hS
   obtain ⟨rv,eS⟩:∃ rv,rv=d.wR t:=⟨_,rfl⟩
   have d4:=ab eS
   have gg:Hid (∀ W,HostIs W h {x.stop with log := .slice C (d.log.length+1) q}→Calls Tryz.prog 103 #[.agg #[.pointer (some ⟨h,0,none⟩)],.int .i64 t] W fun e w'=>e = .returned (.int .i64 rv)∧Below W.heap.size W w'):=ab fun W hH=>by
    have h1:=Bq h {x.stop with log := .slice C (d.log.length+1) q} t W hH
    rw [d4.out]
    unfold DpS.wR
    rw [←bL.out]
    exact h1
   clear eS
   go_wp2
   have eT:Hid (Below w5.heap.size w5 w5.drew):=ab (Below.rf w5).drew
   go_region_held3 (fun w'=>w'.cell? ⟨w.heap.size,0,none⟩=some (.pointer (some ⟨h,0,none⟩))∧w'.cell? ⟨w.heap.size+1,0,none⟩=some (.int .i64 t))
    (first | exact ⟨q0,B⟩ | exact ⟨(m.out.cell (p:=⟨w.heap.size,0,none⟩) Y).trans q0,(m.out.cell (p:=⟨w.heap.size+1,0,none⟩) av).trans B⟩)
    (first
     | (go_at_call 102;refine (gf.out _ (by first | exact U.out | exact fQ m.out aE U.out) (by first | exact ag.out.gr rfl | exact ag.out.gr (m.out.block _ ag.out.lt))).mono ?_;rintro e u ⟨rfl,be⟩;have m:Hid (Below w5.heap.size w5 u):=ab (by first | exact m.out.tn be | exact eT.out.tn be);clear be)
     | (go_at_call 103;refine (gg.out _ (by first | exact U.out | exact fQ m.out aE U.out)).mono ?_;rintro e u ⟨rfl,be⟩;have m:Hid (Below w5.heap.size w5 u):=ab (by first | exact m.out.tn be | exact eT.out.tn be);clear be))
   by_cases J:(countS t d.S:Int)<rv
   ·go_wp2
    have ak:Hid (d.l9 (t,s)=true):=ab (by unfold DpS.l9;rw [←d4.out,dJ,dj];exact .inr J)
    have F:=ab (fQ m.out aE U.out)
    have V:=ab (fQ m.out Y b0.out)
    have ba:=ab (fQ m.out av b1.out)
    have a0:Hid (TabAt u x.r d.S):=ab (ag.out.gr (m.out.block _ ag.out.lt))
    have b2:=ab (dv.out.below m.out)
    have Q:=ab (b6.out.frame (w':=u) fun b _ J=>m.out.block b J)
    have bb:Hid (Ext (fun i=>i=h∨i=x.r∨x.log.ownBlock=some i) w u):=ab (dT.out.trans (Ext.fT m.out))
    clear q0 B E a7 cr aE Y av
    have q0:=ae _ _ 0 _ _ _ V.out
    have B:=ae _ _ 0 _ _ _ ba.out
    have E:=ae _ _ 1 _ _ _ ba.out
    have X:=ae _ _ 10 _ _ _ F.out
    simp only [bQ,bB,aY] at q0 B E X
    have a7:u.cell? ⟨h,10,none⟩=some (.map (some x.r)):=X
    clear X
    have eD:=fO F.out
    have d2:=fO V.out
    have fc:=fO ba.out
    obtain ⟨W1,hu,b3,y,d3⟩:=TabAt.put (w:=u) a0.out (mt:=123) Tryz.underlying123 (t,s) Z
    have b4:=hu 1
    have bc:∀ w:World,w.drewN 1=w.drew:=fun _=>rfl
    rw [bc,bc] at b4
    simp only [kV,jh,kU] at b4
    have bo:=ab b3
    have G:=ab y
    clear hu bc b3 y d3
    go_region
    go_wp2
    go_end0
    have e:d.put (t,s) Z = {d.stop with S:=ke (t,s) Z d.S,log:=d.log++[L]} := by
     unfold DpS.put
     rw [←I.out.1,hdd,au (by decide),ak.out,aD rfl,c5.out]
    refine ⟨rfl,.slice C (d.log.length+1) q,?_,?_,bz.out⟩
    ·rw [e]
     have h2:=Av (w:=u) (x:=x) (d:=d) (v := .slice C (d.log.length+1) q) (L:=d.log++[L]) F.out I.out bL.out (by simp) b2.out Q.out da.out bI.out G.out bo.out ce.out bv.out
     exact ⟨h2.row.gr rfl,h2.left,h2.dead,h2.room,h2.tab.gr rfl,h2.own.frame (w':=W1.drew) (af _) (fun _ _ _=>rfl),h2.ltyp.frame (w':=W1.drew) (fun _ _ _=>rfl),h2.lo,h2.lb⟩
    ·exact bb.out.trans' (T:=fun i=>i=x.r) (c:=W1.drew) ⟨G.out.os,G.out.tape,G.out.output,G.out.size,fun k hk a6=>G.out.block k hk fun e=>a6 (by cases e;rfl)⟩ fun i e => .inl (.inr (.inl e))
   ·go_wp2
    have ak:Hid (d.l9 (t,s)=false):=ab (by unfold DpS.l9;rw [←eC.out,←d4.out,Bool.false_or,decide_eq_false_iff_not];exact eU.2 (by omega))
    have F:=ab (fQ m.out aE U.out)
    have V:=ab (fQ m.out Y b0.out)
    have a0:Hid (TabAt u x.r d.S):=ab (ag.out.gr (m.out.block _ ag.out.lt))
    have b2:=ab (dv.out.below m.out)
    have Q:=ab (b6.out.frame (w':=u) fun b _ J=>m.out.block b J)
    have bb:Hid (Ext (fun i=>i=h∨i=x.r∨x.log.ownBlock=some i) w u):=ab (dT.out.trans (Ext.fT m.out))
    clear q0 B E a7 cr aE Y av
    have rc:=ae _ _ 0 _ _ _ V.out
    have hn:=ae _ _ 11 _ _ _ F.out
    have f9:=aj _ _ 11 _ _ F.out
    simp only [bQ,bB,aY] at rc hn
    have eD:=fO F.out
    have d2:=fO V.out
    have gl:=ab (Q.out.ne F.out (by decide))
    have fd:=ab (Q.out.qk a0.out)
    have bP:=fun o=>ab (Below.drew (Below.al (Below.rf u) o))
    have cl:=ab (tQ u lH)
    have gn:Hid (base≤u.heap.size):=ab (by have:=HB.out;have:=bb.out.size;omega)
    have a4:=fun o=>ab (show _∧_ from ⟨gC o rc,gC o hn⟩)
    refine iB (n:=11) (S:=fun w'=>w'.cell? ⟨w.heap.size,0,none⟩=some (.pointer (some ⟨h,0,none⟩))∧w'.cell? ⟨h,11,none⟩=some (.slice C (d.log.length+1) q)) (by kernel_rfl) (by kernel_rfl) rfl (by first | exact ⟨rc,hn⟩ | exact (a4 _).out) ?_
    intro c6
    simp only [cI,cc,cy,cJ,bA,cd,bf,bu,bT,aO,aX]
    refine wpAnyH_take (i:=0) (v := ?_) rfl (by kernel_rfl) (by kernel_rfl) (by kernel_rfl) (fun _ _ _ h=>h) (Or.inl ⟨by rfl,?_⟩) (by assumption) ?_
    rotate_left 1
    ·(intro w l;(try dsimp only at l);go_simp;(try with_reducible rfl))
    try simp only [Act.put,ah,ai]
    refine wpAnyH_take (i:=1) (v := ?_) rfl (by kernel_rfl) (by kernel_rfl) (by kernel_rfl) (fun _ _ _ h=>h) (Or.inl ⟨by rfl,?_⟩) (by assumption) ?_
    rotate_left 1
    ·(intro w l;(try dsimp only at l);go_simp;(try with_reducible rfl))
    try simp only [Act.put,ah,ai,ao]
    refine wpAnyH_take (i:=2) (v := ?_) rfl (by kernel_rfl) (by kernel_rfl) (by kernel_rfl) (fun _ _ _ h=>h) (Or.inl ⟨by rfl,?_⟩) (by assumption) ?_
    rotate_left 1
    ·(intro w l;(try dsimp only at l);go_simp;(try with_reducible rfl))
    try simp only [Act.put,ah,ai,ao]
    refine wpAnyH_take (i:=3) (v := ?_) rfl (by kernel_rfl) (by kernel_rfl) (by kernel_rfl) (fun _ _ _ h=>h) (Or.inl ⟨by rfl,?_⟩) (by assumption) ?_
    rotate_left 1
    ·(intro w l;(try dsimp only at l);go_simp;(try with_reducible rfl))
    try simp only [Act.put,ah,ai,ao]
    refine wpAnyH_take (i:=4) (v := ?_) rfl (by kernel_rfl) (by kernel_rfl) (by kernel_rfl) (fun _ _ _ h=>h) (Or.inl ⟨by rfl,?_⟩) (by assumption) ?_
    rotate_left 1
    ·(intro w l;(try dsimp only at l);go_simp;(try with_reducible rfl))
    try simp only [Act.put,ah,ai,ao]
    refine wpAnyH_take (i:=5) (v := ?_) rfl (by kernel_rfl) (by kernel_rfl) (by kernel_rfl) (fun _ _ _ h=>h) (Or.inl ⟨by rfl,?_⟩) (by assumption) ?_
    rotate_left 1
    ·(intro w l;(try dsimp only at l);go_simp;(try with_reducible rfl))
    try simp only [Act.put,ah,ai,ao]
    refine wpAnyH_take (i:=6) (v := ?_) rfl (by kernel_rfl) (by kernel_rfl) (by kernel_rfl) (fun _ _ _ h=>h) (Or.inl ⟨by rfl,?_⟩) (by assumption) ?_
    rotate_left 1
    ·(intro w l;(try dsimp only at l);go_simp;(try with_reducible rfl))
    try simp only [Act.put,ah,ai,ao]
    refine wpAnyH_ready (rs:=[7]) (by kernel_rfl) (by simp) ?_
    refine AllReadyH.cons rfl ?_ AllReadyH.nil
    intro K' hK'
    go_simp
    refine hK'.out _ _ (by first | exact ⟨rc,hn⟩ | exact (a4 _).out) ?_
    clear hK' K'
    intro c7
    try simp only [ah,ai,ao]
    refine wpAnyH_ready (rs:=[8]) (by kernel_rfl) (by simp) ?_
    refine AllReadyH.cons rfl ?_ AllReadyH.nil
    intro K' hK'
    refine mz rfl (.tmp 70) (.tmp 71) rfl base (.slice C (d.log.length+1) q) (d.log.length+1) (d.log++[L]) (by simp) rfl (by exact b2.out.below (bP _).out) (by exact Q.out.frame fun b _ hp=>(bP _).out.block b hp) [lH] (by exact cl.out) (by have:=ea.out;simp;omega) (by have:=gn.out;simp;omega) ?_;intro v7 w7 bD y bH eV;obtain ⟨b5,bi,rfl⟩:=bD.shape;have br:=ab (iN y gl.out (fX _ (.cells #[.string ⟨#[110,111,32,114,111,111,109]⟩] 9) F.out));have go:=ab (iN y (Q.out.ne V.out (by decide)) (fX _ (.cells #[.string ⟨#[110,111,32,114,111,111,109]⟩] 9) V.out));refine hK'.out _ _ ⟨ae _ _ 0 _ _ _ go.out,ae _ _ 11 _ _ _ br.out⟩ ?_
    clear hK' K'
    intro c8
    try simp only [Act.put,ah,ai,ao]
    refine wpAnyH_take (i:=9) (v := ?_) rfl (by kernel_rfl) (by kernel_rfl) (by kernel_rfl) (fun _ _ _ h=>h) (Or.inl ⟨by rfl,?_⟩) (by assumption) ?_
    rotate_left 1
    ·(intro w l;(try dsimp only at l);go_simp;(try with_reducible rfl))
    try simp only [Act.put,ah,ai,ao]
    refine wpAnyH_take (i:=10) (v := ?_) rfl (by kernel_rfl) (by kernel_rfl) (by kernel_rfl) (fun _ _ _ h=>h) (Or.inl ⟨by rfl,?_⟩) (by assumption) ?_
    rotate_left 1
    ·(intro w l;(try dsimp only at l);go_simp;(try with_reducible rfl))
    try simp only [Act.put,ah,ai,ao]
    refine wpAnyH_done (by kernel_rfl) ?_ _
    show Oper.wp _ _ _ _ _ _
    have hw:=ae _ _ 11 _ _ _ br.out
    have g9:=aj _ _ 11 _ _ br.out
    have hl:=fO br.out
    have fg:Hid (u.heap.size≤w7.heap.size):=ab (by have:=y.size;simp at this;omega)
    have e0:=ab (bH.ne br.out (by decide))
    have bo:Hid (TabAt w7 x.r d.S):=ab (a0.out.gr ((y.block _ (by simp;have:=a0.out.lt;omega) (fun e=>fd.out e.symm)).trans (heap_alloc_old _ _ a0.out.lt)))
    have hb:=ab (bH.qk bo.out)
    have gp:=ab bD
    have fi:=ab bH
    have gq:Hid (∀ i,(Value.slice C (d.log.length+1) q).ownBlock=some i→x.log.ownBlock=some i∨w.heap.size≤i):=bz
    have e1:Hid (Ext (fun i=>i=h∨i=x.r∨x.log.ownBlock=some i) w w7):=ab (bb.out.trans' (T:=fun i=>(Value.slice C (d.log.length+1) q).ownBlock=some i) ⟨y.os,y.tape,y.output,fg.out,fun i hr a6=>(y.block i (by simp;omega) (fun e=>a6 e.symm)).trans (heap_alloc_old _ _ hr)⟩ fun i e=>(gq.out i e).imp (fun e => .inr (.inr e)) id)
    have fk:Hid (∀ i,(Value.slice b5 (d.log.length+1+1) bi).ownBlock=some i→x.log.ownBlock=some i∨w.heap.size≤i):=ab (fun i e=>(eV i e).elim (fun M=>bz.out i M) fun M => .inr (by have:=bb.out.size;rw [M];simp;omega))
    clear bD y bH eV rc hn f9
    go_wp2
    go_end0
    obtain ⟨w8,cs⟩:∃ w8,w8=w7.setCell ⟨h,11,none⟩ (.slice b5 (d.log.length+1+1) bi):=⟨_,rfl⟩
    have D:∀ j,j≠h→w8.heap[j]?=w7.heap[j]?:=fun j hs=>by rw [cs];exact Below.heap_setCell _ ⟨h,11,none⟩ _ j hs
    have fl:Hid (w8.heap.size=w7.heap.size):=ab (by rw [cs,size_setCell])
    have gs:Hid (HostIs w8 h {x.stop with log := .slice b5 (d.log.length+1+1) bi}):=ab (by rw [cs];exact heap_setCell _ _ 11 _ br.out)
    have e:d.put (t,s) Z = {d.stop with log:=d.log++[L]++[lH]} := by
     unfold DpS.put
     rw [←I.out.1,hdd,au (by decide),ak.out,au (by decide),c5.out]
    refine ⟨rfl,.slice b5 (d.log.length+1+1) bi,?_,?_,fk.out⟩
    ·rw [e]
     have ho:=gp.out.frame (w':=w8) (by have:=fl.out;omega) fun b e _=>D b fun M=>e0.out (by rw [e,M])
     have gt:=fi.out.frame (w':=w8) fun b e _=>D b fun M=>e0.out (by rw [e,M])
     have h2:DpAt w8 base h {x with left:=d.stop.left,dead:=d.stop.dead,log := .slice b5 (d.log.length+1+1) bi} {d.stop with log:=d.log++[L]++[lH]} := by
      refine ⟨?_,rfl,rfl,bL.out,bo.out.gr (D _ (dx bI.out)),?_,gt,ce.out,bv.out⟩
      ·have h1:=gs.out
       unfold HostIs HV.cells at h1⊢
       simp only [I.out.1,I.out.2] at h1⊢
       exact h1
      ·show OwnS w8 base 1 _ (d.log++[L]++[lH]).length _
       rw [show (d.log++[L]++[lH]).length=d.log.length+1+1 by simp]
       exact ho
     rw [cs] at h2
     first
      | exact h2
      | exact ⟨h2.row.gr rfl,h2.left,h2.dead,h2.room,h2.tab.gr rfl,h2.own.frame (af _) (fun _ _ _=>rfl),h2.ltyp.frame (fun _ _ _=>rfl),h2.lo,h2.lb⟩
    ·first
      | exact e1.out.setCell _ _ (.inl (.inl rfl))
      | exact (e1.out.setCell _ _ (.inl (.inl rfl))).drew
end Go.Proofs.YtkkfmkhbdoeglabGreatDoor
