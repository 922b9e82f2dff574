/- A part of what is proved here: lemmas and contracts of single functions. No condition but those that each names. -/
import Derived.Test.YtkkfmkhbdoeglaaGreatDoorG00
import Derived.Laws.CopyOwn
import Derived.Test.YtkkfmkhbdoeglaaGreatDoorG09
set_option maxHeartbeats 4000000
set_option maxRecDepth 100000
namespace Go.Proofs.YtkkfmkhbdoeglaaGreatDoor
open Go.RowKit Go.Shelf
theorem C3 (h:Nat) (F:Nat→Prop) (H:fx) (n:Nat) (y:Value) (data:List UInt8) (w:World) (J:HostAt w F h H) (o:BytesAt w y data) (Q:data.length≤64) (V:n<H.seen.length) (_hl:H.seen.length≤1000) (B:H.gy=true) :
  Calls Tryz.prog 202 #[.agg #[.pointer (some ⟨h,0,none⟩)],.int .i64 (n:Nat),y] w fun e w'=>∃ v,e = .returned v∧jZ w w' v (n+2)∧HostAt w' F h H.asked∧Ext F w w':=by
 obtain ⟨x,b⟩:=J
 obtain ⟨g,cap,C,-,-⟩:=b.seen.get
 obtain ⟨W,X,rfl,-,-⟩:=o.opened
 have d:Below w.heap.size w (w.alloc (.cells #[.pointer (some ⟨h,0,none⟩)] 188)):=(Below.refl _ w).alloc (af _) _
 have i:=b.frame d.size fun k hk=>d.block k (b.lt k hk)
 have j:=i.dp.row
 have R:=b.dp.row.lt
 have D:=fA w (.cells #[.pointer (some ⟨h,0,none⟩)] 188)
 have rc:=ae _ _ 0 _ _ _ D
 have q:x.fail=0:=by rw [b.fail];simpa [fx.gy] using B
 have E:=ab (lH h x _ j (by omega) (by omega))
 unfold HostIs HV.cells at j
 rw [C] at j
 have c1:=ae _ _ 1 _ _ _ j
 have M:=ab d
 have N:=ab i
 have G:=ab q
 have O:Hid (F h):=ab b.foot.1
 have S:¬H.seen.length≤n:=by omega
 have U:¬(64:Int)<data.length:=by omega
 clear b i C j D d B q o
 go_enter Tryz.func202,Tryz.ntmps202
 go_wp2_with fail
 refine E.out.mono ?_
 rintro e w1 ⟨rfl,r,s,l⟩
 rw [G.out]
 have u:=ab (N.out.asked r s l)
 have I:=ab l
 clear r l
 go_wp2
 go_ret
 have m:Below w1.heap.size w1 (w1.alloc (.cells #[.int .i64 (n:Int)] 171)):=(Below.refl _ w1).alloc (af _) _
 refine ⟨_,rfl,⟨_,rfl,dL _,?_⟩,⟨_,u.out.frame m.size fun k hk=>m.block k (u.out.lt k hk)⟩,?_⟩
 ·have h1:=fA w1 (.cells #[.int .i64 (n:Int)] 171)
  rw [s,ax] at h1
  rw [h1,show ((n+2:Nat):Int)-2=(n:Int) by omega]
 ·exact ((Ext.fD M.out).trans (I.out.mono fun k e=>by rw [e];exact O.out)).trans (Ext.fD m)
theorem ES (data:List UInt8) (_hl:data.length≤64):splice (madeCells #[Value.int .u8 0] 64).toList 0 (u8s data)=u8s (jd data):=by
 have e:(madeCells #[Value.int .u8 0] 64).toList=List.replicate 64 (Value.int .u8 0):=ei _ _
 rw [e]
 unfold splice jd
 rw [jE,bY,aO,bE,iA,List.drop_replicate]
 unfold u8s
 rw [List.map_replicate]
 rfl
theorem AI (h:Nat) (F:Nat→Prop) (H:fx) (n:Nat) (dv:Value) (data:List UInt8) (w:World) (hh:HostAt w F h H) (ap:BytesAt w dv data) (cB:∀ k,dv.ownBlock=some k→¬F k) (U:data.length≤64) (hn:n<H.seen.length) (_hl:H.seen.length≤1000) (hf:H.gy=false) (c0 : -1≤H.fail∧H.fail≤9223372036854775807) (hw:0≤H.writes∧H.writes≤1000000000000) (e8:H.late.length≤1000000000) :
  Calls Tryz.prog 202 #[.agg #[.pointer (some ⟨h,0,none⟩)],.int .i64 (n:Nat),dv] w fun e w'=>e = .returned .nilIface∧gV w F (fun _=>False) h (H.write n (jd data)).1 w':=by
 obtain ⟨x,r⟩:=hh
 obtain ⟨g,cap,hv,cb,ce⟩:=r.seen.get
 obtain ⟨gc,ge,rfl,-,c3⟩:=ap.opened
 have V:Below w.heap.size w (w.alloc (.cells #[.pointer (some ⟨h,0,none⟩)] 188)):=(Below.refl _ w).alloc (af _) _
 have av:=r.frame V.size fun k hk=>V.block k (r.lt k hk)
 have H0:=av.dp.row
 have e9:=r.dp.row.lt
 have R0:=fA w (.cells #[.pointer (some ⟨h,0,none⟩)] 188)
 have rc:=ae _ _ 0 _ _ _ R0
 have bt:decide (x.fail=0)=false:=by rw [r.fail];exact hf
 have c4:=ab (lH h x _ H0 (by rw [r.fail];omega) (by rw [r.fail];omega))
 unfold HostIs HV.cells at H0
 rw [hv] at H0
 have c1:=ae _ _ 1 _ _ _ H0
 have fb:¬H.seen.length≤n:=by omega
 have c5:¬(64:Int)<data.length:=by omega
 have HB:=ab V
 have HX:=ab av
 have c6:=ab bt
 have c7:=ab hf
 have HF:Hid (F h):=ab r.foot.1
 have a0:=ab hv
 have c8:=ab R0
 have c9:=ab ap
 have fd:∀ w,(Instr.makeSlice 59 (.int .i64 64) (.int .i64 64)).run Tryz.prog w = .ok (.slice (some ⟨w.heap.size,0,none⟩) 64 64) (w.alloc (.cells (madeCells #[.int .u8 0] 64) 5)):=fun w =>
  run_make_row' 59 5 (.int .u8 0) 1 Tryz.underlying59 (by kernel_rfl) rfl .i64 .i64 64 (by omega) (by omega) w
 clear r av hv H0 R0 V hf bt c0 ce cb ap c3
 go_enter Tryz.func202,Tryz.ntmps202
 go_wp2_with fail
 refine c4.out.mono ?_
 rintro e w1 ⟨rfl,bv,a1,W⟩
 rw [c6.out]
 have bw:=ab (HX.out.asked bv a1 W)
 have J:w.heap.size≠h:=by omega
 have bx:=ab (W.at J c8.out)
 have bz:Hid (Ext F w w1):=ab ((Ext.fD HB.out).trans (W.mono fun k e=>by rw [e];exact HF.out))
 clear bv W rc c1
 have a2:w1.heap.size=w.heap.size+1:=by rw [a1];simp
 clear a1
 have co:Hid (BytesAt w1 (.slice gc data.length ge) data):=ab (fH.frame c9.out fun b e hb=>bz.out.block b hb (cB b e))
 have bD:0<data.length→∃ ad:Addr,gc=some ad∧∀ (j:Nat) (v:Value),(u8s data)[j]?=some v→w1.cell? (ad.add j)=some v:=fun h0=>by
  obtain ⟨a',c',e,-,r⟩:=co.out.opened
  obtain ⟨rfl,-,rfl⟩:=Value.slice.inj e
  obtain ⟨b,off,rfl,-⟩:=r 0 h0
  refine ⟨_,rfl,fun j v hj => ?_⟩
  obtain ⟨bH,e⟩:=aF.1 hj
  rw [iA] at bH
  obtain ⟨b',e0,e',hc⟩:=r j bH
  cases e'
  rw [fc,hc,←e]
  simp [u8s]
 have bI:=ab bD
 clear bD
 go_wp2_with (with_reducible refine wpList_copy_splice rfl (.tmp 35) (.tmp 36) _ _ rfl 5 Tryz.underlying59 (by kernel_rfl) _ _ _ _ _ _ rfl rfl w1.heap.size 0 (madeCells #[.int .u8 0] 64).toList 5 ?_ (u8s data) ?_ ?_ ?_ ?_ w1.heap.size w1 ?_ (af _) ?_)
 ·exact fA w1 _
 ·rw [iA]
  exact (Nat.min_eq_left U).symm
 ·intro h0
  rw [iA] at h0
  obtain ⟨ad,e,r⟩:=bI.out h0
  refine ⟨by rw [a2],ad,e,fun j v hj => ?_⟩
  have h1:=r j v hj
  exact (aQ (w:=w1) (heap_alloc_old w1 _ (fE h1))).trans h1
 ·rw [ei,iA,bu]
  omega
 ·exact mY data
 ·exact (Below.refl _ w1).alloc (af _) _
 intro w2 a3 C
 rw [←a2] at C
 rw [ES data U] at a3
 have da:=ab C
 have m:Hid (gB w2 F h _ _):=ab (bw.out.frame C.size fun k hk=>C.block k (bw.out.lt k hk))
 have X:=ab ((C.block _ (fw bx.out)).trans bx.out)
 have a4:=U
 clear C U c5 bI
 have rc:=ae _ _ 0 _ _ _ X.out
 have br:=ab m.out.dp.row.lt
 have l:=m.out.dp.row
 have fg:=fw X.out
 unfold HostIs HV.cells at l
 simp only at l
 have gf:=ae _ _ 6 _ _ _ l
 have f6:=aj _ _ 6 _ _ l
 have bL:x.writes=H.writes:=m.out.writes
 rw [bL] at gf
 obtain ⟨vals,bM,a5,bN,dc⟩:=m.out.seen
 have E:=bM
 rw [show HV.seen _ = .slice g H.seen.length cap from a0.out] at E a5 bN
 obtain ⟨dk,E⟩:=E
 rcases E with ⟨e,-⟩ | ⟨gs,os,cap',e,-,fi,dl,dn,ds,bO⟩
 ·have e1:=Value.slice.inj e
  omega
 obtain ⟨rfl,-,rfl⟩:=Value.slice.inj e
 rw [show HV.seen _ = .slice (some ⟨gs,os,none⟩) H.seen.length cap from a0.out] at l
 have s1:=ae _ _ 1 _ _ _ l
 obtain ⟨sn,fk⟩:=bO n (by show n<cap*1;have:H.asked.seen.length=H.seen.length:=rfl;omega)
 obtain ⟨u0,fl⟩:=cy.1 sn
 clear sn
 obtain ⟨Cg,fn,M⟩:=a5 gs rfl
 have fo:gs≠h:=fun e=>by
  rw [e,l] at M
  cases M
 have d0:gs≠w.heap.size:=fun e=>by
  have h1:=X.out
  rw [←e,M] at h1
  cases h1
 have bP:gs≠w.heap.size+1:=fun e=>by
  have h1:=a3.out
  rw [←e,M] at h1
  cases h1
 have d1:=ab bP
 clear bP
 have fp:=br.out
 have a6:=ab (m.out.row (w1:=w2.setCell ⟨h,6,none⟩ (.int .i64 (H.writes+1))) (x' := {x with fail:=if x.fail<0 then x.fail else x.fail-1,writes:=H.writes+1}) (H' := {H.asked with writes:=H.writes+1})
  (heap_setCell _ _ 6 _ m.out.dp.row) (size_setCell _ _ _) ((Ext.refl _ w2).setCell _ _ (.inl rfl)) ⟨rfl,rfl,rfl,rfl,rfl,rfl⟩ ⟨rfl,rfl,rfl,rfl,rfl,rfl⟩ ⟨m.out.dp.left,m.out.dp.dead,m.out.fail,rfl⟩ m.out.dp.lb)
 obtain ⟨O,a7⟩:∃ O:HV,O = {x with fail:=if x.fail<0 then x.fail else x.fail-1,writes:=H.writes+1} := ⟨_,rfl⟩
 rw [←a7] at a6
 have cs:Hid (O.seen = .slice (some ⟨gs,os,none⟩) H.seen.length cap):=ab (by rw [a7];exact a0.out)
 clear a7
 have a9:Hid ((w2.setCell ⟨h,6,none⟩ (.int .i64 (H.writes+1))).heap[w.heap.size+1]?=some (.cells (u8s (jd data)).toArray 5 (0,0))):=ab ((Below.heap_setCell w2 ⟨h,6,none⟩ _ _ (by show w.heap.size+1≠h;omega)).trans a3.out)
 obtain ⟨q,bS,bX⟩:=a6.out.BN (w':=(w2.setCell ⟨h,6,none⟩ (.int .i64 (H.writes+1))).setCell ⟨gs,os+n,none⟩ (.slice (some ⟨w.heap.size+1,0,none⟩) 64 64)) (F':=fun k=>F k∨k=w.heap.size+1) (s:=jd data) (n:=n) cs.out hn
  (iP.BH a9.out (.inr rfl) (lM a4)) (fun k hk => .inl hk) (fun k hk=>by rcases hk with hk | rfl;exact a6.out.lt k hk;exact fw a9.out) rfl
 have d2:=ab q
 have d3:=ab bX
 have fr:=ab bS
 have d4:=ab (nc h _ _ q.dp.row (by have:=q.dp.lb;have:=q.dp.left;omega) (by have:=q.dp.lb;have:=q.dp.left;omega))
 clear q bX bS
 have fv:=m.out.dp.lb
 clear bM dc dk ds a5 bN dl dn bO M l bL
 go_wp2_with fail
 refine d4.out.mono ?_
 rintro e w5 ⟨rfl,b0,b1,N⟩
 have D:=ab (d2.out.Cd b0 b1 N)
 have ba:Hid (Ext F w w5):=ab (((((bz.out.trans (Ext.fD da.out)).setCell ⟨h,6,none⟩ _ (.inl HF.out))).trans (d3.out)).trans (N.mono fun k e=>by rw [e];exact HF.out))
 have Y:=ab (N.at J (by rw [Below.heap_setCell _ _ _ _ (ea d0),Below.heap_setCell _ _ _ _ J];exact X.out))
 have ct:=ab (N.at (b:=w.heap.size+1) (by show w.heap.size+1≠h;omega) (by rw [Below.heap_setCell _ _ _ _ (ea d1.out)];exact a9.out))
 have bb:Hid (∀ k,(F k∨k=w.heap.size+1)→F k∨w.heap.size≤k):=ab fun k hk=>hk.imp id (by omega)
 have b2:Hid (∀ L:List (List UInt8×Nat),(L=if H.dp.stop.dead then H.late else H.late++[(jd data,n)])→(H.write n (jd data)).1 = {{H.asked with writes:=H.writes+1,seen:=H.seen.set n (jd data)} with dp:=H.dp.stop,late:=L}):=ab (fun L e=>by
  unfold fx.write
  rw [au (by rw [c7.out];decide),e])
 have b3:Hid (O.stop.dead=H.dp.stop.dead):=ab D.out.dp.dead
 clear b0 N b1
 cases hdd:O.stop.dead with
 | true =>
  go_wp2
  go_ret
  refine ⟨rfl,_,⟨O.stop,?_⟩,bb.out,ba.out.mono fun k e => .inl e⟩
  rw [b2.out H.late (by rw [←b3.out,hdd];rfl)]
  exact D.out
 | false =>
  have l:=D.out.dp.row
  unfold HostIs HV.cells at l
  obtain ⟨lv,Z⟩:∃ lv,lv=O.stop.late:=⟨_,rfl⟩
  rw [←Z] at l
  have gb:=ae _ _ 2 _ _ _ l
  have f9:=aj _ _ 2 _ _ l
  have rc:=ae _ _ 0 _ _ _ Y.out
  have fz:=fw l
  have e2:=fw Y.out
  clear l
  go_wp2
  obtain ⟨aa,bc,G,B,Q,bd⟩:=D.out.late
  rw [←Z] at G B Q
  have bi:=ab (show w5.heap[h]?=_ from D.out.dp.row)
  have d5:=ab G
  have d6:=ab B
  have ag:=ab Z
  have d7:=ab (B.ne bi.out (by decide))
  have d8:=ab (B.ne Y.out (by decide))
  have d9:=ab bd
  have f0:=ab Q
  have eb:=ab bc
  obtain ⟨la,e3,bk⟩:=G.shape
  have f1:=ab bk
  have hlen:H.late.length+1≤1000000001:=by omega
  have b4:=fun o=>ab (Below.drew (Below.al (Below.rf w5) o))
  have ec:=ab (EZ w5 (n:Int) (.slice (some ⟨w.heap.size+1,0,none⟩) 64 64))
  have b5:=fun o=>ab (show _∧_ from ⟨fT o rc,fT o gb⟩)
  clear G B Q bd bc bk Z
  rw [bR] at rc gb
  simp only [bB,aX] at rc gb
  refine gW (n:=14) (S:=(fun w'=>w'.cell? ⟨w.heap.size,0,none⟩=some (.pointer (some ⟨h,0,none⟩))∧w'.cell? ⟨h,2,none⟩=some lv)) (by kernel_rfl) (by kernel_rfl) rfl (by first | exact ⟨rc,gb⟩ | exact (b5 _).out) ?_
  intro e4
  simp only [cH,bW,cw,cG,bj,bY,aZ,bm,bJ,aO,aV]
  refine wpAnyH_take (i:=0) (v := ?_) rfl (by kernel_rfl) (by kernel_rfl) (by kernel_rfl) (fun _ _ _ h=>h) (Or.inl ⟨by rfl,?_⟩) (by assumption) ?_
  rotate_left 1
  ·(intro w d;(try dsimp only at d);go_simp;(try with_reducible rfl))
  try simp only [Act.put,ah,ai]
  refine wpAnyH_take (i:=1) (v := ?_) rfl (by kernel_rfl) (by kernel_rfl) (by kernel_rfl) (fun _ _ _ h=>h) (Or.inl ⟨by rfl,?_⟩) (by assumption) ?_
  rotate_left 1
  ·(intro w d;(try dsimp only at d);go_simp;(try with_reducible rfl))
  try simp only [Act.put,ah,ai,ao]
  refine wpAnyH_take (i:=2) (v := ?_) rfl (by kernel_rfl) (by kernel_rfl) (by kernel_rfl) (fun _ _ _ h=>h) (Or.inl ⟨by rfl,?_⟩) (by assumption) ?_
  rotate_left 1
  ·(intro w d;(try dsimp only at d);go_simp;(try with_reducible rfl))
  try simp only [Act.put,ah,ai,ao]
  refine wpAnyH_take (i:=3) (v := ?_) rfl (by kernel_rfl) (by kernel_rfl) (by kernel_rfl) (fun _ _ _ h=>h) (Or.inl ⟨by rfl,?_⟩) (by assumption) ?_
  rotate_left 1
  ·(intro w d;(try dsimp only at d);go_simp;(try with_reducible rfl))
  try simp only [Act.put,ah,ai,ao]
  refine wpAnyH_take (i:=4) (v := ?_) rfl (by kernel_rfl) (by kernel_rfl) (by kernel_rfl) (fun _ _ _ h=>h) (Or.inl ⟨by rfl,?_⟩) (by assumption) ?_
  rotate_left 1
  ·(intro w d;(try dsimp only at d);go_simp;(try with_reducible rfl))
  try simp only [Act.put,ah,ai,ao]
  refine wpAnyH_take (i:=5) (v := ?_) rfl (by kernel_rfl) (by kernel_rfl) (by kernel_rfl) (fun _ _ _ h=>h) (Or.inl ⟨by rfl,?_⟩) (by assumption) ?_
  rotate_left 1
  ·(intro w d;(try dsimp only at d);go_simp;(try with_reducible rfl))
  try simp only [Act.put,ah,ai,ao]
  refine wpAnyH_take (i:=6) (v := ?_) rfl (by kernel_rfl) (by kernel_rfl) (by kernel_rfl) (fun _ _ _ h=>h) (Or.inl ⟨by rfl,?_⟩) (by assumption) ?_
  rotate_left 1
  ·(intro w d;(try dsimp only at d);go_simp;(try with_reducible rfl))
  try simp only [Act.put,ah,ai,ao]
  refine wpAnyH_take (i:=7) (v := ?_) rfl (by kernel_rfl) (by kernel_rfl) (by kernel_rfl) (fun _ _ _ h=>h) (Or.inl ⟨by rfl,?_⟩) (by assumption) ?_
  rotate_left 1
  ·(intro w d;(try dsimp only at d);go_simp;(try with_reducible rfl))
  try simp only [Act.put,ah,ai,ao]
  refine wpAnyH_take (i:=8) (v := ?_) rfl (by kernel_rfl) (by kernel_rfl) (by kernel_rfl) (fun _ _ _ h=>h) (Or.inl ⟨by rfl,?_⟩) (by assumption) ?_
  rotate_left 1
  ·(intro w d;(try dsimp only at d);go_simp;(try with_reducible rfl))
  try simp only [Act.put,ah,ai,ao]
  refine wpAnyH_take (i:=9) (v := ?_) rfl (by kernel_rfl) (by kernel_rfl) (by kernel_rfl) (fun _ _ _ h=>h) (Or.inl ⟨by rfl,?_⟩) (by assumption) ?_
  rotate_left 1
  ·(intro w d;(try dsimp only at d);go_simp;(try with_reducible rfl))
  try simp only [Act.put,ah,ai,ao]
  refine wpAnyH_ready (rs:=[10]) (by kernel_rfl) (by simp) ?_
  refine AllReadyH.cons rfl ?_ AllReadyH.nil
  intro K' hK'
  go_simp
  refine hK'.out _ _ (by first | exact ⟨rc,gb⟩ | exact (b5 _).out) ?_
  clear hK' K'
  intro e5
  try simp only [ah,ai,ao]
  refine wpAnyH_ready (rs:=[11]) (by kernel_rfl) (by simp) ?_
  refine AllReadyH.cons rfl ?_ AllReadyH.nil
  intro K' hK'
  refine ku rfl (.tmp 64) (.tmp 68) 83 125 2 32 (.agg #[.int .i64 0,.slice none 0 0]) Tryz.underlying83 GB rfl (by decide) rfl 0 lv H.late.length (p7 H.late aa) rfl (by exact d5.out.below (b4 _).out) (by exact d6.out.frame fun b _ hb=>(b4 _).out.block b hb) 1 [.int .i64 (n:Int),.slice (some ⟨w.heap.size+1,0,none⟩) 64 64] (by exact ec.out) (by intro u hu;simp at hu;rcases hu with rfl | rfl <;> rfl) (by omega) (by omega) (aK _) ?_;intro v7 w7 I y bl b6;obtain ⟨bn,R,rfl⟩:=I.shape;have ak:=ab (ir y d7.out (fG _ (.cells #[.int .i64 (n:Int),.slice (some ⟨w.heap.size+1,0,none⟩) 64 64] 125) bi.out));have ed:=ab (ir y d8.out (fG _ (.cells #[.int .i64 (n:Int),.slice (some ⟨w.heap.size+1,0,none⟩) 64 64] 125) Y.out));refine hK'.out _ _ ⟨ae _ _ 0 _ _ _ ed.out,(ae _ _ 2 _ _ _ ak.out).trans (by rw [ag.out];rfl)⟩ ?_
  clear hK' K'
  intro e6
  try simp only [Act.put,ah,ai,ao]
  refine wpAnyH_take (i:=12) (v := ?_) rfl (by kernel_rfl) (by kernel_rfl) (by kernel_rfl) (fun _ _ _ h=>h) (Or.inl ⟨by rfl,?_⟩) (by assumption) ?_
  rotate_left 1
  ·(intro w d;(try dsimp only at d);go_simp;(try with_reducible rfl))
  try simp only [Act.put,ah,ai,ao]
  refine wpAnyH_take (i:=13) (v := ?_) rfl (by kernel_rfl) (by kernel_rfl) (by kernel_rfl) (fun _ _ _ h=>h) (Or.inl ⟨by rfl,?_⟩) (by assumption) ?_
  rotate_left 1
  ·(intro w d;(try dsimp only at d);go_simp;(try with_reducible rfl))
  try simp only [Act.put,ah,ai,ao]
  refine wpAnyH_done (by kernel_rfl) ?_ _
  show Oper.wp _ _ _ _ _ _
  have gg:w7.cell? ⟨h,2,none⟩=some lv:=(ae _ _ 2 _ _ _ ak.out).trans (by rw [ag.out];rfl)
  have g9:=aj _ _ 2 _ _ ak.out
  have f2:=fw ak.out
  have eg:Hid (Ext (fun k=>lv.ownBlock=some k) w5 w7):=ab ⟨y.os,y.tape,y.output,by have:=y.size;simp at this;omega,fun i hi J=>(y.block i (by simp;omega) (fun e=>J e.symm)).trans (heap_alloc_old _ _ hi)⟩
  have ej:=ab I
  have el:=ab bl
  have em:=ab b6
  clear I y bl b6 rc gb f9
  go_wp2
  go_ret
  have cv:=D.out.Fa (w8:=w7.setCell ⟨h,2,none⟩ (.slice bn (H.late.length+1) R)) (v7 := .slice bn (H.late.length+1) R) (vals:=aa) (u := .slice (some ⟨w.heap.size+1,0,none⟩) 64 64) (s:=jd data) (n:=n) eb.out d9.out ?_ ?_ ej.out el.out ?_ rfl
  ·obtain ⟨h1,h2⟩:=cv
   have en:HostAt (w7.setCell ⟨h,2,none⟩ (.slice bn (H.late.length+1) R)) _ h (H.write n (jd data)).1:=⟨_,by rw [b2.out (H.late++[(jd data,n)]) (by rw [←b3.out,hdd];rfl)];exact h1⟩
   refine ⟨rfl,_,en,fun k hk => ?_,(ba.out.trans' h2 fun k hk=>bb.out k hk).mono fun k e => .inl e⟩
   rcases hk with hk | hk
   ·exact bb.out k hk
   ·exact .inr (by have:=ba.out.size;omega)
  ·exact iP.BH ct.out (.inr rfl) (lM a4)
  ·rw [←ag.out]
   exact eg.out
  ·rw [←ag.out]
   exact fun b e=>(em.out b e).imp id (fun e'=>by rw [e'];simp)
end Go.Proofs.YtkkfmkhbdoeglaaGreatDoor
