/- A part of what is proved here: lemmas and contracts of single functions. No condition but those that each names. -/
import Derived.Test.YtkkfmkhbdoeglaaGreatDoorG00
import Derived.Test.YtkkfmkhbdoeglaaGreatDoorG09
import Derived.Test.YtkkfmkhbdoeglaaGreatDoorG16
import Derived.Test.YtkkfmkhbdoeglaaGreatDoorG26
set_option maxHeartbeats 4000000
set_option maxRecDepth 100000
namespace Go.Proofs.YtkkfmkhbdoeglaaGreatDoor
open Go.RowKit Go.Shelf
def nU (l:List Int) (t:Nat):Int:=if t<l.length then min (max (l.getD t 0) 0) 40 else 40
def roomN (l:List Int):Nat→Int
 | 0=>nU l 0
 | 1=>nU l 1
 | _=>nU l 2
theorem oi {w w':World} {v:Value} (h:w.grownBy w' v.ownBlock):Ext (fun k=>v.ownBlock=some k) w w':=⟨h.os,h.tape,h.output,h.size,fun k hk hs=>h.block k hk fun e=>hs e.symm⟩
theorem RowsAt.push {w d:World} {F F7:Nat→Prop} {v v7 u:Value} {vals:List Value} {rows:List (List UInt8)} {s:List UInt8} (h1:OwnS w 0 1 v rows.length vals) (h2:CellsOf w v 59) (h4:∀ (i:Nat) (b:List UInt8),rows[i]?=some b→∃ u,vals[i]?=some u∧jd w F u b)
  (y:Ext (fun k=>v.ownBlock=some k) w d) (l:OwnS d 0 1 v7 (rows.length+1) (vals++[u])) (m:CellsOf d v7 59) (hF:∀ k,F k→F7 k) (h7:∀ k,v7.ownBlock=some k→F7 k) (hu:jd d F7 u s):RowsAt d F7 v7 (rows++[s]):=by
 have o:vals.length=rows.length:=by have:=h1.1;omega
 refine ⟨vals++[u],by rw [ar];exact l,m,h7,fun i b j => ?_⟩
 by_cases q:i<rows.length
 ·rw [cI q] at j
  obtain ⟨v0,B,r⟩:=h4 i b j
  refine ⟨v0,by rw [cI (by omega)];exact B,(r.fW fun k C fz hk _=>y.block k (fI hk) fun e => ?_).mono hF⟩
  obtain ⟨E,D,x⟩:=h2 k e
  rw [hk] at x
  cases x
 ·have:i=rows.length:=by
   have:=(aG.1 j).1
   simp at this
   omega
  subst this
  rw [cG (ah _),ef] at j
  cases j
  exact ⟨u,by rw [cG (by omega),o,ef];rfl,hu⟩
theorem we (w:World) (u:Value):fR (w.alloc (.cells #[u] 59)) (.slice (some ⟨w.heap.size,0,none⟩) 1 1) 1 1 [u]:=by
 refine ⟨rfl,_,1,rfl,ah _,fun i b=>⟨_,0,rfl,?_⟩⟩
 obtain rfl:i=0:=by simp at b;omega
 rw [bF,lS]
 rfl
theorem Ad:(Tryz.prog.info? 59).map (fun i=>(i.zero,i.size,i.bytes))=some (some (.slice none 0 0),1,24):=by kernel_rfl
def xO (b d:Value) (r:Nat) (r0 r1 r2:Int):HV:=⟨b,d,.slice none 0 0,-1,-1,false,0,r0,r1,r2,r,.slice none 0 0⟩
def xr (w:World) (i:Nat) (wr:World):Prop:=∃ b d,HostIs wr (w.heap.size+1) (xO b d w.heap.size 0 0 0)∧RowsAt wr (fun k=>w.heap.size+2≤k∧k<wr.heap.size) b (List.replicate i iE)∧RowsAt wr (fun k=>w.heap.size+2≤k∧k<wr.heap.size) d (List.replicate i iE)∧
 (∀ k,b.ownBlock=some k→d.ownBlock≠some k)∧Below w.heap.size w wr∧TabAt wr w.heap.size []
theorem xn:(madeCells #[Value.int .u8 0] 64)=(u8s iE).toArray:=by
 apply Array.toList_inj.1
 have e:(madeCells #[Value.int .u8 0] 64).toList=List.replicate 64 (Value.int .u8 0):=ey _ _
 rw [e]
 unfold iE u8s
 rw [List.map_replicate]
 rfl
theorem Fy {w wr d w8:World} {i:Nat} {m r v7:Value} {vals C:List Value} {rows orows:List (List UInt8)} (J:Below w.heap.size w wr) (hw:w.heap.size+2≤wr.heap.size) (x:d.heap[w.heap.size+1]?=some (.cells C.toArray 87 (0,0)))
  (m1:OwnS wr 0 1 m rows.length vals) (m2:CellsOf wr m 59) (m3:∀ k,m.ownBlock=some k→w.heap.size+2≤k∧k<wr.heap.size) (m4:∀ (i:Nat) (b:List UInt8),rows[i]?=some b→∃ u,vals[i]?=some u∧jd wr (fun k=>w.heap.size+2≤k∧k<wr.heap.size) u b)
  (y:RowsAt wr (fun k=>w.heap.size+2≤k∧k<wr.heap.size) r orows) (ha:∀ k,m.ownBlock=some k→r.ownBlock≠some k) (tab:TabAt wr w.heap.size [])
  (o:Ext (fun k=>m.ownBlock=some k) wr d) (q:d.heap[wr.heap.size]?=some (.cells (madeCells #[.int .u8 0] 64) 5 (0,0))) (B:OwnS d 0 1 v7 (rows.length+1) (vals++[.slice (some ⟨wr.heap.size,0,none⟩) 64 64])) (s:CellsOf d v7 59) (F:∀ b,v7.ownBlock=some b→m.ownBlock=some b∨wr.heap.size≤b) (he:w8=d.setCell ⟨w.heap.size+1,i,none⟩ v7) :
  RowsAt w8 (fun k=>w.heap.size+2≤k∧k<w8.heap.size) v7 (rows++[iE])∧RowsAt w8 (fun k=>w.heap.size+2≤k∧k<w8.heap.size) r orows∧(∀ k,v7.ownBlock=some k→r.ownBlock≠some k)∧Below w.heap.size w w8∧TabAt w8 w.heap.size []∧w8.heap[w.heap.size+1]?=some (.cells (C.toArray.setIfInBounds i v7) 87 (0,0))∧wr.heap.size≤w8.heap.size:=by
 have O:w8.heap.size=d.heap.size:=by rw [he,size_setCell]
 have Q:=o.size
 have l:∀ k,k≠w.heap.size+1→w8.heap[k]?=d.heap[k]?:=fun k hk=>by rw [he];exact Below.heap_setCell d ⟨w.heap.size+1,i,none⟩ v7 k hk
 have D:∀ b,v7.ownBlock=some b→w.heap.size+2≤b∧b<d.heap.size:=fun b e=>by
  refine ⟨(F b e).elim (fun h=>(m3 b h).1) (fun h=>by omega),?_⟩
  obtain ⟨C,fz,M⟩:=s b e
  exact fI M
 have E:=fI q
 have hu:jd d (fun k=>w.heap.size+2≤k∧k<d.heap.size) (.slice (some ⟨wr.heap.size,0,none⟩) 64 64) iE:=by
  rw [xn] at q
  exact jd.Cy q ⟨hw,E⟩ (by decide)
 have h1:=RowsAt.push (F7:=fun k=>w.heap.size+2≤k∧k<d.heap.size) m1 m2 m4 o B s (fun k hk=>⟨hk.1,by omega⟩) D hu
 refine ⟨(h1.fW (by omega) fun k C t fz hk _ hF=>l k (by have:=hF.1;omega)).mono fun k hk=>⟨hk.1,by omega⟩,?_,fun k e G => ?_,?_,tab.fW ((l _ (by omega)).trans (o.block _ (by omega) fun e=>by have:=m3 _ e;omega)),?_,by omega⟩
 ·have h2:=y.yN (w':=w8) (by omega) (fun k e hk=>(l k (by obtain ⟨_,_,_,h3,_⟩:=y;have:=h3 k e;omega)).trans (o.block k hk fun N=>ha k N e)) (fun k C fz hk hF=>(l k (by have:=hF.1;omega)).trans (o.block k (fI hk) fun e=>by
   obtain ⟨S,R,I⟩:=m2 k e
   rw [hk] at I
   cases I))
  exact h2.mono fun k hk=>⟨hk.1,by omega⟩
 ·rcases F k e with h | h
  ·exact ha k h G
  ·obtain ⟨_,_,_,h3,_⟩:=y
   have:=h3 k G
   omega
 ·rw [he]
  exact (J.trans (o.below (by omega) fun j U e=>by have:=m3 j e;omega)).setCell (p:=⟨w.heap.size+1,i,none⟩) (by simp) v7
 ·rw [he]
  exact heap_setCell _ _ i v7 x
theorem RowsAt.nil (w:World) (F:Nat→Prop):RowsAt w F (.slice none 0 0) []:=⟨[],OwnS.nil _ _ _,CellsOf.nil _ _,fun k e=>by simp [Value.ownBlock] at e,fun i b h=>by simp at h⟩
def rr (l:List Int) (k:Nat) (v:Int) (t:Nat):Int:=if t<k then nU l t else if t=k then v else 0
theorem yZ (l:List Int) (k:Nat) (t:Nat):rr l (k+1) 0 t=rr l k (nU l k) t:=by
 unfold rr
 by_cases h:t<k
 ·rw [aF h,aF (by omega)]
 ·by_cases h2:t=k
  ·subst h2
   rw [aw h,aF rfl,aF (by omega)]
  ·rw [aw h,aw h2,aw (by omega),b]
where b {p:Prop} [Decidable p]:(if p then (0:Int) else 0)=0:=by split <;> rfl
def yk (w:World) (n:Nat) (l:List Int) (k:Nat) (v:Int) (wr:World):Prop:=∃ b d,HostIs wr (w.heap.size+1) (xO b d w.heap.size (rr l k v 0) (rr l k v 1) (rr l k v 2))∧RowsAt wr (fun k=>w.heap.size+2≤k∧k<wr.heap.size) b (List.replicate n iE)∧RowsAt wr (fun k=>w.heap.size+2≤k∧k<wr.heap.size) d (List.replicate n iE)∧
 (∀ k,b.ownBlock=some k→d.ownBlock≠some k)∧Below w.heap.size w wr∧TabAt wr w.heap.size []
theorem xr.IX {w wr:World} {n:Nat} {l:List Int} (h:xr w n wr):yk w n l 0 0 wr:=by
 obtain ⟨b,d,h1,h2⟩:=h
 exact ⟨b,d,h1,h2⟩
theorem yk.next {w wr:World} {n k:Nat} {l:List Int} (h:yk w n l k (nU l k) wr):yk w n l (k+1) 0 wr:=by
 obtain ⟨b,d,h1,h2⟩:=h
 exact ⟨b,d,by rw [yZ,yZ,yZ];exact h1,h2⟩
theorem yk.cell {w wr:World} {n k:Nat} {l:List Int} {v:Int} (h:yk w n l k v wr) (hk:k<3):wr.cell? ⟨w.heap.size+1,7+k,none⟩=some (.int .i64 v)∧wr.frozen? ⟨w.heap.size+1,7+k,none⟩=false:=by
 obtain ⟨b,d,h1,-⟩:=h
 refine ⟨?_,ao _ _ _ _ _ h1⟩
 obtain rfl | rfl | rfl:k=0∨k=1∨k=2:=by omega
 ·exact af _ _ 7 _ _ _ h1
 ·exact af _ _ 8 _ _ _ h1
 ·exact af _ _ 9 _ _ _ h1
theorem yk.set {w wr:World} {n k:Nat} {l:List Int} {v:Int} (h:yk w n l k v wr) (hk:k<3) (v':Int):yk w n l k v' (wr.setCell ⟨w.heap.size+1,7+k,none⟩ (.int .i64 v')):=by
 obtain ⟨i,m,h1,h2,h3,h4,h5,h6⟩:=h
 have b:∀ j,j≠w.heap.size+1→(wr.setCell ⟨w.heap.size+1,7+k,none⟩ (.int .i64 v')).heap[j]?=wr.heap[j]?:=fun j o=>Below.heap_setCell wr ⟨w.heap.size+1,7+k,none⟩ _ j o
 have d:(wr.setCell ⟨w.heap.size+1,7+k,none⟩ (.int .i64 v')).heap.size=wr.heap.size:=size_setCell _ _ _
 refine ⟨i,m,?_,?_,?_,h4,h5.setCell (p:=⟨w.heap.size+1,7+k,none⟩) (by simp) _,h6.fW (b _ (by omega))⟩
 ·have:=heap_setCell _ _ (7+k) (.int .i64 v') h1
  obtain rfl | rfl | rfl:k=0∨k=1∨k=2:=by omega
  all_goals exact this
 ·rw [d]
  exact h2.fW (by omega) fun k C t fz hk _ hF=>b k (by have:=hF.1;omega)
 ·rw [d]
  exact h3.fW (by omega) fun k C t fz hk _ hF=>b k (by have:=hF.1;omega)
theorem yk.drew {w wr:World} {n k:Nat} {l:List Int} {v:Int} (h:yk w n l k v wr):yk w n l k v wr.drew:=by
 obtain ⟨b,d,h1,h2,h3,h4,h5,h6⟩:=h
 exact ⟨b,d,h1,h2,h3,h4,h5.drew,h6⟩
theorem yk.host {w wr:World} {n:Nat} {l:List Int} (h:yk w n l 3 0 wr):HostAt wr (fun k=>w.heap.size≤k∧k<wr.heap.size) (w.heap.size+1) (nb n (roomN l))∧Below w.heap.size w wr:=by
 obtain ⟨d,i,h1,h2,h3,h4,h5,h6⟩:=h
 have b:=fI h1
 refine ⟨⟨_,⟨h1,rfl,rfl,?_,h6,OwnS.nil _ _ _,CellsOf.nil _ _,⟨aL _,aL _⟩,⟨by show -1≤(-1:Int);omega,by show (-1:Int)≤_;omega⟩⟩,rfl,rfl,h2.mono fun k hk=>⟨by omega,hk.2⟩,h3.mono fun k hk=>⟨by omega,hk.2⟩,LateAt.nil _ _,h4,⟨⟨by omega,b⟩,⟨ah _,show w.heap.size<_ by omega⟩,fun k e=>by simp [xO,Value.ownBlock] at e⟩,fun k hk=>hk.2⟩,h5⟩
 funext t
 match t with
 | 0=>rfl
 | 1=>rfl
 | t+2=>rfl
theorem Av (r:Int) (l:List Int) (rv:Value) (w:World) (hr:fR w rv 1 l.length (l.map fun i => .int .i64 i)) (n:Nat) (hn:(n:Int)=min (max r 32) 128) :
  Calls Tryz.prog 77 #[.int .i64 r,rv] w fun e w'=>∃ h,e = .returned (.pointer (some ⟨h,0,none⟩))∧HostAt w' (fun k=>w.heap.size≤k∧k<w'.heap.size) h (nb n (roomN l))∧Below w.heap.size w w':=by
 have e8 := @run_makeMap Tryz.prog
 have HN:=ae hn
 have e9:32≤n∧n≤128:=by omega
 have HR:=ae hr
 obtain ⟨-,ra,rc,rfl,fb,-⟩:=hr
 clear hn
 go_enter Tryz.func77,Tryz.ntmps77
 go_wp2
 rw [←HN.out]
 have ce:Below w.heap.size w ((w.alloc (.map #[] 0)).alloc (.cells #[.slice none 0 0,.slice none 0 0,.slice none 0 0,.int .i64 (-1),.int .i64 (-1),.bool false,.int .i64 0,.int .i64 0,.int .i64 0,.int .i64 0,.map (some w.heap.size),.slice none 0 0] 87)):=((Below.refl _ w).alloc (ah _) _).alloc (by simp) _
 have R1:=fL (w.alloc (.map #[] 0)) (.cells #[.slice none 0 0,.slice none 0 0,.slice none 0 0,.int .i64 (-1),.int .i64 (-1),.bool false,.int .i64 0,.int .i64 0,.int .i64 0,.int .i64 0,.map (some w.heap.size),.slice none 0 0] 87)
 rw [ax] at R1
 have T0:=(TabAt.new w).fW (heap_alloc_old (w.alloc (.map #[] 0)) (.cells #[.slice none 0 0,.slice none 0 0,.slice none 0 0,.int .i64 (-1),.int .i64 (-1),.bool false,.int .i64 0,.int .i64 0,.int .i64 0,.int .i64 0,.map (some w.heap.size),.slice none 0 0] 87) (by simp))
 have a2:Hid (xr w 0 ((w.alloc (.map #[] 0)).alloc (.cells #[.slice none 0 0,.slice none 0 0,.slice none 0 0,.int .i64 (-1),.int .i64 (-1),.bool false,.int .i64 0,.int .i64 0,.int .i64 0,.int .i64 0,.map (some w.heap.size),.slice none 0 0] 87))):=ae ⟨.slice none 0 0,.slice none 0 0,R1,RowsAt.nil _ _,RowsAt.nil _ _,fun k e=>by simp [Value.ownBlock] at e,ce,T0⟩
 clear ce R1 T0
 have fd:∀ w,(Instr.makeSlice 59 (.int .i64 64) (.int .i64 64)).run Tryz.prog w = .ok (.slice (some ⟨w.heap.size,0,none⟩) 64 64) (w.alloc (.cells (madeCells #[.int .u8 0] 64) 5)):=fun w =>
  run_make_row' 59 5 (.int .u8 0) 1 Tryz.underlying59 (by kernel_rfl) rfl .i64 .i64 64 (by omega) (by omega) w
 go_loopw [13] (fun i wr=>∃ k:Nat,k≤n∧i = .int .i64 (k:Int)∧xr w k wr) (fun i _=>n-(intOf i).toNat)
 case atStart=>exact ⟨0,aL _,rfl,a2.out⟩
 case round =>
  obtain ⟨k,hk,rfl,cf⟩:=hrel
  have X:=ae cf
  obtain ⟨hv,sv,r1,r2,r3,r4,r5,r6⟩:=cf
  have a3:=ae r1
  have d2:=ae r2
  have d3:=ae r3
  have a4:=ae r4
  have a5:=ae r5
  have a6:=ae r6
  have ci:=r5.size
  have I:w.heap.size+2≤wr.heap.size:=fI r1
  unfold HostIs HV.cells xO at r1
  simp only at r1
  have cl:=fI r1
  obtain ⟨vals,v1,v2,v3,v4⟩:=r2
  obtain ⟨b7,s1,s2,s3,s4⟩:=r3
  rw [bG] at v1 s1
  obtain ⟨va,vc,rfl⟩:=v1.shape
  obtain ⟨J,M,rfl⟩:=s1.shape
  have c0:wr.cell? ⟨w.heap.size+1,0,none⟩=some (.slice va k vc):=af _ _ 0 _ _ _ r1
  have co:=ao _ _ 0 _ _ r1
  have Y:=ae v1
  have Z:=ae v2
  have aa:=ae v3
  have ba:=ae v4
  have bb:=ae s1
  have bc:=ae s2
  have bi:=ae s3
  have bk:=ae s4
  have bl:=ae (v2.ne r1 (by decide))
  have bn:=ae (s2.ne r1 (by decide))
  clear r1 r4 r5 r6 v1 v2 v3 v4 s1 s2 s3 s4 a2
  by_cases fg:k<n
  ·have g1:(k:Int)<n:=by omega
   have ab:=fun o N=>ae (Below.drew (Below.al (Below.al (Below.rf wr) o) N))
   have O:=ae (we (wr.alloc (.cells (madeCells #[.int .u8 0] 64) 5)) (.slice (some ⟨wr.heap.size,0,none⟩) 64 64))
   rw [ax] at O
   have ag:=fun o=>ae (gr o c0)
   have ak:=fun o N=>ae (gr N (gr o c0))
   go_wp2
   refine iz (n:=10) (S:=(fun w'=>w'.cell? ⟨w.heap.size+1,0,none⟩=some (.slice va k vc))) (by kernel_rfl) (by kernel_rfl) rfl (by first | exact c0 | exact (ag _).out | exact (ak _ _).out) ?_
   intro Q
   simp only [cK,cg,cA,cL,bA,ch,bd,bu,bV,aQ,aX]
   refine wpAnyH_take (i:=0) (v := ?_) rfl (by kernel_rfl) (by kernel_rfl) (by kernel_rfl) (fun _ _ _ h=>h) (Or.inl ⟨by rfl,?_⟩) (by assumption) ?_
   rotate_left 1
   ·(intro w d;(try dsimp only at d);go_simp;(try with_reducible rfl))
   try simp only [Act.put,ai,aj]
   refine wpAnyH_take (i:=1) (v := ?_) rfl (by kernel_rfl) (by kernel_rfl) (by kernel_rfl) (fun _ _ _ h=>h) (Or.inl ⟨by rfl,?_⟩) (by assumption) ?_
   rotate_left 1
   ·(intro w d;(try dsimp only at d);go_simp;(try with_reducible rfl))
   try simp only [Act.put,ai,aj,aq]
   refine wpAnyH_take (i:=2) (v := ?_) rfl (by kernel_rfl) (by kernel_rfl) (by kernel_rfl) (fun _ _ _ h=>h) (Or.inl ⟨by rfl,?_⟩) (by assumption) ?_
   rotate_left 1
   ·(intro w d;(try dsimp only at d);go_simp;(try with_reducible rfl))
   try simp only [Act.put,ai,aj,aq]
   refine wpAnyH_take (i:=3) (v := ?_) rfl (by kernel_rfl) (by kernel_rfl) (by kernel_rfl) (fun _ _ _ h=>h) (Or.inl ⟨by rfl,?_⟩) (by assumption) ?_
   rotate_left 1
   ·(intro w d;(try dsimp only at d);go_simp;(try with_reducible rfl))
   try simp only [Act.put,ai,aj,aq]
   refine wpAnyH_take (i:=4) (v := ?_) rfl (by kernel_rfl) (by kernel_rfl) (by kernel_rfl) (fun _ _ _ h=>h) (Or.inl ⟨by rfl,?_⟩) (by assumption) ?_
   rotate_left 1
   ·(intro w d;(try dsimp only at d);go_simp;(try with_reducible rfl))
   try simp only [Act.put,ai,aj,aq]
   refine wpAnyH_ready (rs:=[5]) (by kernel_rfl) (by simp) ?_
   refine AllReadyH.cons rfl ?_ AllReadyH.nil
   intro m hK'
   go_simp
   refine hK'.out _ _ (by first | exact c0 | exact (ag _).out | exact (ak _ _).out) ?_
   clear hK' m
   intro R
   try simp only [ai,aj,aq]
   refine wpAnyH_ready (rs:=[6]) (by kernel_rfl) (by simp) ?_
   refine AllReadyH.cons rfl ?_ AllReadyH.nil
   intro m hK'
   go_simp
   refine hK'.out _ _ (by first | exact c0 | exact (ag _).out | exact (ak _ _).out) ?_
   clear hK' m
   intro U
   try simp only [ai,aj,aq]
   refine wpAnyH_ready (rs:=[7]) (by kernel_rfl) (by simp) ?_
   refine AllReadyH.cons rfl ?_ AllReadyH.nil
   intro m hK'
   refine lj rfl (.tmp 19) (.tmp 21) 82 59 1 24 (.slice none 0 0) Tryz.underlying82 Ad rfl (by decide) rfl 0 (.slice va k vc) k vals rfl (by exact Y.out.below (ab _ _).out) (by exact Z.out.frame fun b _ hb=>(ab _ _).out.block b hb) 1 [.slice (some ⟨wr.heap.size,0,none⟩) 64 64] (by exact O.out) (by intro u hu;simp at hu;rw [hu];rfl) (by omega) (by omega) (aL _) ?_;intro v7 w7 s bo br cp;obtain ⟨bs,bt,rfl⟩:=s.shape;have bv:=ae bo;have cq:=ae s;have cr:=ae br;have cs:=ae cp;have bw:=iJ bo bl.out (fQ _ _ (fQ _ _ a3.out));have am:=ae bw;have f2:w7.cell? ⟨w.heap.size+1,0,none⟩=some (.slice va k vc):=af _ _ 0 _ _ _ bw;clear s bo br cp bw;refine hK'.out _ _ f2 ?_
   clear hK' m
   intro bx
   try simp only [Act.put,ai,aj,aq]
   refine wpAnyH_take (i:=8) (v := ?_) rfl (by kernel_rfl) (by kernel_rfl) (by kernel_rfl) (fun _ _ _ h=>h) (Or.inl ⟨by rfl,?_⟩) (by assumption) ?_
   rotate_left 1
   ·(intro w d;(try dsimp only at d);go_simp;(try with_reducible rfl))
   try simp only [Act.put,ai,aj,aq]
   refine wpAnyH_take (i:=9) (v := ?_) rfl (by kernel_rfl) (by kernel_rfl) (by kernel_rfl) (fun _ _ _ h=>h) (Or.inl ⟨by rfl,?_⟩) (by assumption) ?_
   rotate_left 1
   ·(intro w d;(try dsimp only at d);go_simp;(try with_reducible rfl))
   try simp only [Act.put,ai,aj,aq]
   refine wpAnyH_done (by kernel_rfl) ?_ _
   show Oper.wp _ _ _ _ _ _
   have d6:=ao _ _ 0 _ _ am.out
   have d7:=fI am.out
   go_wp2_with fail
   generalize ct:w7.setCell ⟨w.heap.size+1,0,none⟩ (.slice bs (k+1) bt)=w8
   have B:∀ x,(Value.slice va k vc).ownBlock=some x→x<wr.heap.size:=fun x e=>(aa.out x e).2
   have C:=(Ext.fM (S:=fun x=>(Value.slice va k vc).ownBlock=some x) (ab (.cells (madeCells #[.int .u8 0] 64) 5) (.cells #[.slice (some ⟨wr.heap.size,0,none⟩) 64 64] 59)).out).trans (oi bv.out)
   have D:=iJ bv.out (b:=wr.heap.size) (fun e=>absurd (B _ e) (dD _)) (fQ (wr.alloc (.cells (madeCells #[.int .u8 0] 64) 5)) (.cells #[.slice (some ⟨wr.heap.size,0,none⟩) 64 64] 59) (fL wr (.cells (madeCells #[.int .u8 0] 64) 5)))
   have d8:=Fy (rows:=List.replicate k iE) (orows:=List.replicate k iE) (i:=0) a5.out I am.out (by rw [bG];exact Y.out) Z.out aa.out ba.out ⟨b7,by rw [bG];exact bb.out,bc.out,bi.out,bk.out⟩ a4.out a6.out C D (by rw [bG];exact cq.out) cr.out (fun b e=>(cs.out b e).imp id fun e=>by rw [e];show _≤(World.alloc (World.alloc wr _) _).heap.size;rw [ax,ax];omega) ct.symm
   obtain ⟨n1,n2,n3,n4,n5,n6,n7⟩:=d8
   have q:HostIs w8 (w.heap.size+1) (xO (.slice bs (k+1) bt) (.slice J k M) w.heap.size 0 0 0):=n6
   obtain ⟨bL,s1,s2,s3,s4⟩:=n2
   rw [bG] at s1
   have bM:w.heap.size+2≤w8.heap.size:=by omega
   have d0:w8.cell? ⟨w.heap.size+1,1,none⟩=some (.slice J k M):=af _ _ 1 _ _ _ q
   have fi:=ao _ _ 1 _ _ q
   have cu:=ae s1
   have cv:=ae s2
   have cB:=ae s3
   have d9:=ae s4
   have J1:=ae n1
   have J3:=ae n3
   have J4:=ae n4
   have J5:=ae n5
   have J6:=ae q
   have ec:=ae (s2.ne q (by decide))
   have ed:=ae bM
   have V:=fun o N=>ae (Below.drew (Below.al (Below.al (Below.rf w8) o) N))
   have ap:=ae (we (w8.alloc (.cells (madeCells #[.int .u8 0] 64) 5)) (.slice (some ⟨w8.heap.size,0,none⟩) 64 64))
   rw [ax] at ap
   have bN:=fun o=>ae (gr o d0)
   have bO:=fun o N=>ae (gr N (gr o d0))
   clear s1 s2 s3 s4 n1 n3 n4 n5 n6 q n7 C D bM ct Q R U bx f2 d6 d7 c0 co ag ak O ab ci I cl bv cq cr cs am Y Z aa ba bb bc bi bk bl bn a3 a4 a5 a6 B
   have fk:=ae (fI J6.out)
   refine iz (n:=10) (S:=(fun w'=>w'.cell? ⟨w.heap.size+1,1,none⟩=some (.slice J k M))) (by kernel_rfl) (by kernel_rfl) rfl (by first | exact d0 | exact (bN _).out | exact (bO _ _).out) ?_
   intro Q
   simp only [cK,cg,cA,cL,bA,ch,bd,bu,bV,aQ,aX]
   refine wpAnyH_take (i:=0) (v := ?_) rfl (by kernel_rfl) (by kernel_rfl) (by kernel_rfl) (fun _ _ _ h=>h) (Or.inl ⟨by rfl,?_⟩) (by assumption) ?_
   rotate_left 1
   ·(intro w d;(try dsimp only at d);go_simp;(try with_reducible rfl))
   try simp only [Act.put,ai,aj]
   refine wpAnyH_take (i:=1) (v := ?_) rfl (by kernel_rfl) (by kernel_rfl) (by kernel_rfl) (fun _ _ _ h=>h) (Or.inl ⟨by rfl,?_⟩) (by assumption) ?_
   rotate_left 1
   ·(intro w d;(try dsimp only at d);go_simp;(try with_reducible rfl))
   try simp only [Act.put,ai,aj,aq]
   refine wpAnyH_take (i:=2) (v := ?_) rfl (by kernel_rfl) (by kernel_rfl) (by kernel_rfl) (fun _ _ _ h=>h) (Or.inl ⟨by rfl,?_⟩) (by assumption) ?_
   rotate_left 1
   ·(intro w d;(try dsimp only at d);go_simp;(try with_reducible rfl))
   try simp only [Act.put,ai,aj,aq]
   refine wpAnyH_take (i:=3) (v := ?_) rfl (by kernel_rfl) (by kernel_rfl) (by kernel_rfl) (fun _ _ _ h=>h) (Or.inl ⟨by rfl,?_⟩) (by assumption) ?_
   rotate_left 1
   ·(intro w d;(try dsimp only at d);go_simp;(try with_reducible rfl))
   try simp only [Act.put,ai,aj,aq]
   refine wpAnyH_take (i:=4) (v := ?_) rfl (by kernel_rfl) (by kernel_rfl) (by kernel_rfl) (fun _ _ _ h=>h) (Or.inl ⟨by rfl,?_⟩) (by assumption) ?_
   rotate_left 1
   ·(intro w d;(try dsimp only at d);go_simp;(try with_reducible rfl))
   try simp only [Act.put,ai,aj,aq]
   refine wpAnyH_ready (rs:=[5]) (by kernel_rfl) (by simp) ?_
   refine AllReadyH.cons rfl ?_ AllReadyH.nil
   intro m hK'
   go_simp
   refine hK'.out _ _ (by first | exact d0 | exact (bN _).out | exact (bO _ _).out) ?_
   clear hK' m
   intro R
   try simp only [ai,aj,aq]
   refine wpAnyH_ready (rs:=[6]) (by kernel_rfl) (by simp) ?_
   refine AllReadyH.cons rfl ?_ AllReadyH.nil
   intro m hK'
   go_simp
   refine hK'.out _ _ (by first | exact d0 | exact (bN _).out | exact (bO _ _).out) ?_
   clear hK' m
   intro U
   try simp only [ai,aj,aq]
   refine wpAnyH_ready (rs:=[7]) (by kernel_rfl) (by simp) ?_
   refine AllReadyH.cons rfl ?_ AllReadyH.nil
   intro m hK'
   refine lj rfl (.tmp 29) (.tmp 31) 82 59 1 24 (.slice none 0 0) Tryz.underlying82 Ad rfl (by decide) rfl 0 (.slice J k M) k bL rfl (by exact cu.out.below (V _ _).out) (by exact cv.out.frame fun b _ hb=>(V _ _).out.block b hb) 1 [.slice (some ⟨w8.heap.size,0,none⟩) 64 64] (by exact ap.out) (by intro u hu;simp at hu;rw [hu];rfl) (by omega) (by omega) (aL _) ?_;intro v9 w9 y bP bS c1;obtain ⟨c2,c3,rfl⟩:=y.shape;have bX:=ae bP;have c4:=ae y;have c5:=ae bS;have c6:=ae c1;have b0:=iJ bP ec.out (fQ _ _ (fQ _ _ J6.out));have av:=ae b0;have f3:w9.cell? ⟨w.heap.size+1,1,none⟩=some (.slice J k M):=af _ _ 1 _ _ _ b0;clear y bP bS c1 b0;refine hK'.out _ _ f3 ?_
   clear hK' m
   intro bx
   try simp only [Act.put,ai,aj,aq]
   refine wpAnyH_take (i:=8) (v := ?_) rfl (by kernel_rfl) (by kernel_rfl) (by kernel_rfl) (fun _ _ _ h=>h) (Or.inl ⟨by rfl,?_⟩) (by assumption) ?_
   rotate_left 1
   ·(intro w d;(try dsimp only at d);go_simp;(try with_reducible rfl))
   try simp only [Act.put,ai,aj,aq]
   refine wpAnyH_take (i:=9) (v := ?_) rfl (by kernel_rfl) (by kernel_rfl) (by kernel_rfl) (fun _ _ _ h=>h) (Or.inl ⟨by rfl,?_⟩) (by assumption) ?_
   rotate_left 1
   ·(intro w d;(try dsimp only at d);go_simp;(try with_reducible rfl))
   try simp only [Act.put,ai,aj,aq]
   refine wpAnyH_done (by kernel_rfl) ?_ _
   show Oper.wp _ _ _ _ _ _
   have el:=ao _ _ 1 _ _ av.out
   have em:=fI av.out
   go_wp2_with fail
   generalize b1:w9.setCell ⟨w.heap.size+1,1,none⟩ (.slice c2 (k+1) c3)=b2
   have B:∀ x,(Value.slice J k M).ownBlock=some x→x<w8.heap.size:=fun x e=>(cB.out x e).2
   have C:=(Ext.fM (S:=fun x=>(Value.slice J k M).ownBlock=some x) (V (.cells (madeCells #[.int .u8 0] 64) 5) (.cells #[.slice (some ⟨w8.heap.size,0,none⟩) 64 64] 59)).out).trans (oi bX.out)
   have D:=iJ bX.out (b:=w8.heap.size) (fun e=>absurd (B _ e) (dD _)) (fQ (w8.alloc (.cells (madeCells #[.int .u8 0] 64) 5)) (.cells #[.slice (some ⟨w8.heap.size,0,none⟩) 64 64] 59) (fL w8 (.cells (madeCells #[.int .u8 0] 64) 5)))
   have en:=Fy (rows:=List.replicate k iE) (orows:=List.replicate k iE++[iE]) (i:=1) J4.out ed.out av.out (by rw [bG];exact cu.out) cv.out cB.out d9.out J1.out (fun x e e2=>J3.out x e2 e) J5.out C D (by rw [bG];exact c4.out) c5.out (fun b e=>(c6.out b e).imp id fun e=>by rw [e];show _≤(World.alloc (World.alloc w8 _) _).heap.size;rw [ax,ax];omega) b1.symm
   obtain ⟨n1,n2,n3,n4,n5,n6,n7⟩:=en
   have q:HostIs b2 (w.heap.size+1) (xO (.slice bs (k+1) bt) (.slice c2 (k+1) c3) w.heap.size 0 0 0):=n6
   have cb:Hid (xr w (k+1) b2):=ae ⟨_,_,q,by rw [List.replicate_succ'];exact n2,by rw [List.replicate_succ'];exact n1,fun x e e2=>n3 x e2 e,n4,n5⟩
   have fl:Hid (w8.heap.size≤b2.heap.size):=ae n7
   clear C D B n1 n2 n3 n4 n5 n6 q n7 b1 bX c4 c5 c6 av f3 el em
   go_wp2
   go_roundw
   case rel=>exact ⟨k+1,by omega,rfl,cb.out⟩
   case measure=>simp [intOf];omega
  ·have g1:¬((k:Int)<n):=by omega
   obtain rfl:k=n:=by omega
   have er:Hid (yk w k l 0 0 wr):=ae (xr.IX (X.out))
   have fn:=a5
   clear a3 d2 d3 a4 a6 Y Z aa ba bb bc bi bk bl bn c0 co ci I cl X
   go_wp2
   go_loopw [36] (fun i eC=>∃ j:Nat,j≤3∧i = .int .i64 (j:Int)∧yk w k l j 0 eC) (fun i _=>3-(intOf i).toNat)
   case atStart=>exact ⟨0,aL _,rfl,er.out⟩
   case round =>
    obtain ⟨j,hj,rfl,hR⟩:=hrel
    have b3:=ae hR
    clear hR
    by_cases E:j<3
    ·have g2:(j:Int)<3:=by omega
     have c7:=b3.out.cell E
     have fo:=c7.1
     have fp:=c7.2
     have F:Hid (yk w k l j 40 (wr.setCell ⟨w.heap.size+1,7+j,none⟩ (.int .i64 40))):=ae (b3.out.set E 40)
     have b4:∀ W,yk w k l j (nU l j) W→yk w k l (j+1) 0 W:=fun W h=>h.next
     by_cases aE:j<l.length
     ·have g3:(j:Int)<(l.length:Int):=by omega
      have c8:Below w.heap.size w (wr.setCell ⟨w.heap.size+1,7+j,none⟩ (.int .i64 40)):=by obtain ⟨_,_,_,_,_,_,h5,_⟩:=F.out;exact h5
      have eS:=fR.below HR.out c8
      obtain ⟨-,_,_,e0,-,c9⟩:=eS
      injection e0 with e1 e2 e3
      subst e1
      obtain ⟨g,off,rfl,G⟩:=c9 j (by rw [aH];exact aE)
      rw [eY] at G
      clear c9 c8 e3
      have b5:=ae (show nU l j=min (max l[j] 0) 40 by unfold nU;rw [aF aE,aP,ay aE];rfl)
      have b6:=(F.out.cell E).1
      have fr:=(F.out.cell E).2
      generalize eT:l[j]=x at G
      go_wp2
      refine iz (n:=11) (S:=(fun w'=>w'.cell? ⟨w.heap.size+1,7+j,none⟩=some (.int .i64 40)∧w'.cell? ⟨g,off+j,none⟩=some (.int .i64 x))) (by kernel_rfl) (by kernel_rfl) rfl (by exact ⟨b6,G⟩) ?_
      intro Q
      simp only [cK,cg,cA,cL,bA,ch,bd,bu,bV,aQ,aX]
      refine wpAnyH_take (i:=0) (v := ?_) rfl (by kernel_rfl) (by kernel_rfl) (by kernel_rfl) (fun _ _ _ h=>h) (Or.inl ⟨by rfl,?_⟩) (by assumption) ?_
      rotate_left 1
      ·(intro w d;(try dsimp only at d);go_simp;(try with_reducible rfl))
      try simp only [Act.put,ai,aj]
      refine wpAnyH_take (i:=1) (v := ?_) rfl (by kernel_rfl) (by kernel_rfl) (by kernel_rfl) (fun _ _ _ h=>h) (Or.inl ⟨by rfl,?_⟩) (by assumption) ?_
      rotate_left 1
      ·(intro w d;(try dsimp only at d);go_simp;(try with_reducible rfl))
      try simp only [Act.put,ai,aj,aq]
      refine wpAnyH_take (i:=2) (v := ?_) rfl (by kernel_rfl) (by kernel_rfl) (by kernel_rfl) (fun _ _ _ h=>h) (Or.inl ⟨by rfl,?_⟩) (by assumption) ?_
      rotate_left 1
      ·(intro w d;(try dsimp only at d);go_simp;(try with_reducible rfl))
      try simp only [Act.put,ai,aj,aq]
      refine wpAnyH_take (i:=3) (v := ?_) rfl (by kernel_rfl) (by kernel_rfl) (by kernel_rfl) (fun _ _ _ h=>h) (Or.inl ⟨by rfl,?_⟩) (by assumption) ?_
      rotate_left 1
      ·(intro w d;(try dsimp only at d);go_simp;(try with_reducible rfl))
      try simp only [Act.put,ai,aj,aq]
      refine wpAnyH_take (i:=4) (v := ?_) rfl (by kernel_rfl) (by kernel_rfl) (by kernel_rfl) (fun _ _ _ h=>h) (Or.inl ⟨by rfl,?_⟩) (by assumption) ?_
      rotate_left 1
      ·(intro w d;(try dsimp only at d);go_simp;(try with_reducible rfl))
      try simp only [Act.put,ai,aj,aq]
      refine wpAnyH_take (i:=5) (v := ?_) rfl (by kernel_rfl) (by kernel_rfl) (by kernel_rfl) (fun _ _ _ h=>h) (Or.inl ⟨by rfl,?_⟩) (by assumption) ?_
      rotate_left 1
      ·(intro w d;(try dsimp only at d);go_simp;(try with_reducible rfl))
      try simp only [Act.put,ai,aj,aq]
      refine wpAnyH_take (i:=8) (v := ?_) rfl (by kernel_rfl) (by kernel_rfl) (by kernel_rfl) (fun _ _ _ h=>h) (Or.inl ⟨by rfl,?_⟩) (by assumption) ?_
      rotate_left 1
      ·(intro w d;(try dsimp only at d);go_simp;(try with_reducible rfl))
      try simp only [Act.put,ai,aj,aq]
      refine wpAnyH_take (i:=9) (v := ?_) rfl (by kernel_rfl) (by kernel_rfl) (by kernel_rfl) (fun _ _ _ h=>h) (Or.inl ⟨by rfl,?_⟩) (by assumption) ?_
      rotate_left 1
      ·(intro w d;(try dsimp only at d);go_simp;(try with_reducible rfl))
      try simp only [Act.put,ai,aj,aq]
      refine wpAnyH_ready (rs:=[6]) (by kernel_rfl) (by simp) ?_
      refine AllReadyH.cons rfl ?_ AllReadyH.nil
      intro m hK'
      go_simp
      refine hK'.out _ _ (by exact ⟨b6,G⟩) ?_
      clear hK' m
      intro R
      try simp only [ai,aj,aq]
      refine wpAnyH_ready (rs:=[7]) (by kernel_rfl) (by simp) ?_
      refine AllReadyH.cons rfl ?_ AllReadyH.nil
      intro m hK'
      go_simp
      refine hK'.out _ _ (by exact ⟨b6,G⟩) ?_
      clear hK' m
      intro U
      try simp only [ai,aj,aq]
      refine wpAnyH_take (i:=10) (v := ?_) rfl (by kernel_rfl) (by kernel_rfl) (by kernel_rfl) (fun _ _ _ h=>h) (Or.inl ⟨by rfl,?_⟩) (by assumption) ?_
      rotate_left 1
      ·(intro w d;(try dsimp only at d);go_simp;(try with_reducible rfl))
      try simp only [Act.put,ai,aj,aq]
      refine wpAnyH_done (by kernel_rfl) ?_ _
      show Oper.wp _ _ _ _ _ _
      go_wp2
      refine ⟨⟨j+1,by omega,rfl,b4 _ ?_⟩,by simp [intOf];omega⟩
      subst eT
      rw [b5.out]
      exact (F.out.set E _).drew
     ·have g3:¬((j:Int)<(l.length:Int)):=by omega
      have b5:nU l j=40:=by unfold nU;rw [aw aE]
      go_wp2
      refine ⟨⟨j+1,by omega,rfl,b4 _ (by rw [b5];exact F.out)⟩,by simp [intOf];omega⟩
    ·have g2:¬((j:Int)<3):=by omega
     obtain rfl:j=3:=by omega
     go_wp2
     refine aK (v := .pointer (some ⟨w.heap.size+1,0,none⟩)) (by simp [results]) rfl ⟨_,rfl,b3.out.host⟩
end Go.Proofs.YtkkfmkhbdoeglaaGreatDoor
namespace Go.Proofs.YtkkfmkhbdoeglaaGreatDoor
def inTab (k:K):Prop:=0≤k.1∧k.1<3
instance (k:K):Decidable (inTab k):=inferInstanceAs (Decidable (_∧_))
def tu (room:Nat→Int) (S:List E) (x:E):List E :=
 if inTab x.1 then (if (jq x.1 S).isSome || decide ((countS x.1.1 S:Int)<room x.1.1.toNat) then jJ x.1 x.2 S else S) else S
theorem qn (l:List Int) (t:Nat):0≤nU l t∧nU l t≤40:=by
 unfold nU
 split <;> omega
theorem kA (l:List Int) (t:Nat):0≤roomN l t∧roomN l t≤40:=by
 match t with
 | 0=>exact qn l 0
 | 1=>exact qn l 1
 | _+2=>exact qn l 2
structure ThereOk (room:Nat→Int) (P:E→Prop) (S:List E):Prop where
 sorted:SortedE S
 tab:∀ x∈S,inTab x.1
 room:∀ t:Nat,t<3→(countS (t:Int) S:Int)≤room t
 mem:∀ x∈S,P x
theorem BB {S:List E} {k:K} {v:List UInt8} (b:SortedE S) (hk:(jq k S).isSome=true) (t:Int):countS t (jJ k v S)≤countS t S:=by
 refine qF (sorted_put _ _ b) (fun x d => ?_) t
 rcases (jn k v S x).1 d with rfl | ⟨h,-⟩
 ·obtain ⟨u,hu⟩:=cE.1 hk
  exact aB.2 ⟨_,(nS b.keys k u).1 hu,rfl⟩
 ·exact aB.2 ⟨x,h,rfl⟩
theorem yv {S:List E} {k:K} {v:List UInt8} {t:Int} (i:SortedE S) (j:k.1≠t):countS t (jJ k v S)≤countS t S:=by
 rw [nN,nN]
 refine qb ((sorted_put k v i).keys.filter _) fun y d => ?_
 obtain ⟨d,b⟩:=cm.1 d
 obtain ⟨x,l,rfl⟩:=aB.1 d
 rcases (jn k v S x).1 l with rfl | ⟨h,-⟩
 ·exact absurd (dV b) j
 ·exact cm.2 ⟨aB.2 ⟨x,h,rfl⟩,b⟩
theorem ThereOk.step {room:Nat→Int} {P:E→Prop} {S:List E} (h:ThereOk room P S) {x:E} (j:P x):ThereOk room P (tu room S x):=by
 unfold tu
 by_cases d:inTab x.1
 ·rw [aF d]
  by_cases hc:((jq x.1 S).isSome || decide ((countS x.1.1 S:Int)<room x.1.1.toNat))=true
  ·rw [aF hc]
   refine ⟨sorted_put _ _ h.sorted,fun y i => ?_,fun t h3 => ?_,fun y i => ?_⟩
   ·rcases (jn x.1 x.2 S y).1 i with rfl | ⟨h1,-⟩
    ·exact d
    ·exact h.tab y h1
   ·have h1:=h.room t h3
    by_cases he:x.1.1=(t:Int)
    ·rcases cD (jq x.1 S).isSome with b | b
     ·have:=BB (v:=x.2) h.sorted b (t:Int)
      omega
     ·rw [b,Bool.false_or,dj,he] at hc
      have h2:=vp (v:=x.2) h.sorted (Option.not_isSome_iff_eq_none.1 (by rw [b];decide))
      rw [he] at h2
      rw [dU] at hc
      omega
    ·have:=yv (v:=x.2) h.sorted he
     omega
   ·rcases (jn x.1 x.2 S y).1 i with rfl | ⟨h1,-⟩
    ·exact j
    ·exact h.mem y h1
  ·rw [aw hc]
   exact h
 ·rw [aw d]
  exact h
theorem zQ {S:List E} (h:∀ x∈S,inTab x.1):S.length=countS 0 S+countS 1 S+countS 2 S:=by
 induction S with
 | nil=>rfl
 | cons x S ih =>
  have h1:=ih fun y b=>h y (by simp [b])
  obtain ⟨h2,h3⟩:=h x (by simp)
  unfold countS at h1⊢
  rw [dg,dg,dg,au,h1]
  have h4:x.1.1=0∨x.1.1=1∨x.1.1=2:=by omega
  rcases h4 with h4 | h4 | h4 <;> simp [h4] <;> omega
theorem ThereOk.len {l:List Int} {P:E→Prop} {S:List E} (h:ThereOk (roomN l) P S):S.length≤120:=by
 have b:=h.room 0 (by omega)
 have h1:=h.room 1 (by omega)
 have h2:=h.room 2 (by omega)
 have b0:=(kA l 0).2
 have m:=(kA l 1).2
 have o:=(kA l 2).2
 have e:=zQ h.tab
 have d:((countS 0 S:Nat):Int)≤roomN l 0:=b
 have i:((countS 1 S:Nat):Int)≤roomN l 1:=h1
 have j:((countS 2 S:Nat):Int)≤roomN l 2:=h2
 omega
theorem vU {S:List E} {room:Nat→Int} (h:overS S room=none):∀ t:Nat,t<3→(countS (t:Int) S:Int)≤room t:=by
 unfold overS at h
 split at h
 ·cases h
 ·split at h
  ·cases h
  ·split at h
   ·cases h
   ·intro t b
    match t,b with
    | 0,_=>show ((countS 0 S:Nat):Int)≤_;omega
    | 1,_=>show ((countS 1 S:Nat):Int)≤_;omega
    | 2,_=>show ((countS 2 S:Nat):Int)≤_;omega
theorem G6 (d:DpS) (T:List E) (hd:d.dead=false) (b:SortedE d.S) (i:SortedE T) (hk:∀ x∈T,inTab x.1) (j:overS T d.room=none):d.run (je d.S T)=d.zl (je d.S T) (je d.S T).length:=by
 have:=DpS.AO d T hd b i hk (vU j) (je d.S T).length (ah _)
 rwa [be] at this
theorem Gh (d:DpS) (os:List ry) (h:d.left<0):(d.zl os os.length).S=jL d.S os∧(d.zl os os.length).log=d.log++os.map qu:=by
 unfold DpS.zl
 rw [aF h,be]
 exact ⟨rfl,rfl⟩
theorem F9 (d:DpS) (o:ry) (y:E) (h:y∈(d.step o).S):y∈d.S∨o=(y.1,some y.2):=by
 obtain ⟨k,v⟩:=o
 have hs:d.stop.S=d.S:=rfl
 cases v with
 | none =>
  unfold DpS.step DpS.drop at h
  simp only at h
  split at h
  ·exact .inl h
  ·exact .inl ((my k _ y).1 h).1
 | some v =>
  unfold DpS.step DpS.put at h
  simp only at h
  split at h
  ·exact .inl h
  ·split at h
   ·rcases (jn k v _ y).1 h with rfl | ⟨h,-⟩
    ·exact .inr rfl
    ·exact .inl h
   ·exact .inl h
theorem Dn:∀ (os:List ry) (d:DpS) (y:E),y∈(d.run os).S→y∈d.S∨(y.1,some y.2)∈os
 | [],_,_,h => .inl h
 | o::os,d,y,h=>by
  rcases Dn os (d.step o) y h with h | h
  ·rcases F9 d o y h with h | h
   ·exact .inl h
   ·exact .inr (by rw [h];exact ck)
  ·exact .inr (aT _ h)
theorem FG {h w:List E} {y:E} (hm:(y.1,some y.2)∈je h w):y∈w:=by
 unfold je at hm
 rw [bU] at hm
 rcases hm with hm | hm
 ·obtain ⟨x,-,e⟩:=aB.1 hm
  injection e with d b
  cases b
 ·obtain ⟨x,i,e⟩:=aB.1 hm
  injection e with d b
  injection b with j
  have:x=y:=Prod.ext d j
  rw [←this]
  exact ((mz x).1 i).1
theorem Ez (d:DpS) (o:ry):(d.step o).room=d.room:=by
 obtain ⟨k,v⟩:=o
 cases v with
 | none=>unfold DpS.step DpS.drop;simp only;split <;> rfl
 | some v =>
  unfold DpS.step DpS.put
  simp only
  split
  ·rfl
  ·split <;> rfl
theorem AM:∀ (os:List ry) (d:DpS),(d.run os).room=d.room
 | [],_=>rfl
 | o::os,d=>(AM os (d.step o)).trans (Ez d o)
end Go.Proofs.YtkkfmkhbdoeglaaGreatDoor
