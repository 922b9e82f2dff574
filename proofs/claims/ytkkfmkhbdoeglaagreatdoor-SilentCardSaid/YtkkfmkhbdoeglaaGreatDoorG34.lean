/- A part of what is proved here: lemmas and contracts of single functions. No condition but those that each names. -/
import Derived.Test.YtkkfmkhbdoeglaaGreatDoorG00
import Derived.Test.YtkkfmkhbdoeglaaGreatDoorG02
import Derived.Test.YtkkfmkhbdoeglaaGreatDoorG04
import Derived.Test.YtkkfmkhbdoeglaaGreatDoorG09
import Derived.Test.YtkkfmkhbdoeglaaGreatDoorG11
import Derived.Test.YtkkfmkhbdoeglaaGreatDoorG12
import Derived.Test.YtkkfmkhbdoeglaaGreatDoorG18
import Derived.Test.YtkkfmkhbdoeglaaGreatDoorG20
import Derived.Test.YtkkfmkhbdoeglaaGreatDoorG22
import Derived.Test.YtkkfmkhbdoeglaaGreatDoorG23
import Derived.Test.YtkkfmkhbdoeglaaGreatDoorG33
set_option maxHeartbeats 4000000
set_option maxRecDepth 100000
namespace Go.Proofs.YtkkfmkhbdoeglaaGreatDoor
open Go.RowKit Go.Shelf
def nm (l:List Int) (t:Nat):Int:=if t<l.length then min (max (l.getD t 0) 0) 40 else 40
def roomN (l:List Int):Nat→Int
 | 0=>nm l 0
 | 1=>nm l 1
 | _=>nm l 2
theorem nD {w w':World} {v:Value} (h:w.grownBy w' v.ownBlock):Ext (fun k=>v.ownBlock=some k) w w':=⟨h.os,h.tape,h.output,h.size,fun k hk hs=>h.block k hk fun e=>hs e.symm⟩
theorem RowsAt.push {w d:World} {F F7:Nat→Prop} {v v7 u:Value} {vals:List Value} {rows:List (List UInt8)} {s:List UInt8} (h1:OwnS w 0 1 v rows.length vals) (h2:CellsOf w v 59) (h4:∀ (i:Nat) (b:List UInt8),rows[i]?=some b→∃ u,vals[i]?=some u∧iP w F u b)
  (y:Ext (fun k=>v.ownBlock=some k) w d) (l:OwnS d 0 1 v7 (rows.length+1) (vals++[u])) (m:CellsOf d v7 59) (hF:∀ k,F k→F7 k) (h7:∀ k,v7.ownBlock=some k→F7 k) (hu:iP d F7 u s):RowsAt d F7 v7 (rows++[s]):=by
 have o:vals.length=rows.length:=by have:=h1.1;omega
 refine ⟨vals++[u],by rw [aq];exact l,m,h7,fun i b j => ?_⟩
 by_cases q:i<rows.length
 ·rw [cE q] at j
  obtain ⟨v0,B,r⟩:=h4 i b j
  refine ⟨v0,by rw [cE (by omega)];exact B,(r.fP fun k C fz hk _=>y.block k (fw hk) fun e => ?_).mono hF⟩
  obtain ⟨E,D,x⟩:=h2 k e
  rw [hk] at x
  cases x
 ·have:i=rows.length:=by
   have:=(aF.1 j).1
   simp at this
   omega
  subst this
  rw [cC (af _),dU] at j
  cases j
  exact ⟨u,by rw [cC (by omega),o,dU];rfl,hu⟩
theorem uu (w:World) (u:Value):fH (w.alloc (.cells #[u] 59)) (.slice (some ⟨w.heap.size,0,none⟩) 1 1) 1 1 [u]:=by
 refine ⟨rfl,_,1,rfl,af _,fun i b=>⟨_,0,rfl,?_⟩⟩
 obtain rfl:i=0:=by simp at b;omega
 rw [bE,mN]
 rfl
theorem yl:(Tryz.prog.info? 59).map (fun i=>(i.zero,i.size,i.bytes))=some (some (.slice none 0 0),1,24):=by kernel_rfl
def vG (b d:Value) (r:Nat) (r0 r1 r2:Int):HV:=⟨b,d,.slice none 0 0,-1,-1,false,0,r0,r1,r2,r,.slice none 0 0⟩
def wk (w:World) (i:Nat) (wr:World):Prop:=∃ b d,HostIs wr (w.heap.size+1) (vG b d w.heap.size 0 0 0)∧RowsAt wr (fun k=>w.heap.size+2≤k∧k<wr.heap.size) b (List.replicate i ib)∧RowsAt wr (fun k=>w.heap.size+2≤k∧k<wr.heap.size) d (List.replicate i ib)∧
 (∀ k,b.ownBlock=some k→d.ownBlock≠some k)∧Below w.heap.size w wr∧TabAt wr w.heap.size []
theorem vh:(madeCells #[Value.int .u8 0] 64)=(u8s ib).toArray:=by
 apply Array.toList_inj.1
 have e:(madeCells #[Value.int .u8 0] 64).toList=List.replicate 64 (Value.int .u8 0):=ei _ _
 rw [e]
 unfold ib u8s
 rw [List.map_replicate]
 rfl
theorem DM {w wr d w8:World} {i:Nat} {m r v7:Value} {vals C:List Value} {rows orows:List (List UInt8)} (J:Below w.heap.size w wr) (hw:w.heap.size+2≤wr.heap.size) (x:d.heap[w.heap.size+1]?=some (.cells C.toArray 87 (0,0)))
  (m1:OwnS wr 0 1 m rows.length vals) (m2:CellsOf wr m 59) (m3:∀ k,m.ownBlock=some k→w.heap.size+2≤k∧k<wr.heap.size) (m4:∀ (i:Nat) (b:List UInt8),rows[i]?=some b→∃ u,vals[i]?=some u∧iP wr (fun k=>w.heap.size+2≤k∧k<wr.heap.size) u b)
  (y:RowsAt wr (fun k=>w.heap.size+2≤k∧k<wr.heap.size) r orows) (ha:∀ k,m.ownBlock=some k→r.ownBlock≠some k) (tab:TabAt wr w.heap.size [])
  (o:Ext (fun k=>m.ownBlock=some k) wr d) (q:d.heap[wr.heap.size]?=some (.cells (madeCells #[.int .u8 0] 64) 5 (0,0))) (B:OwnS d 0 1 v7 (rows.length+1) (vals++[.slice (some ⟨wr.heap.size,0,none⟩) 64 64])) (s:CellsOf d v7 59) (F:∀ b,v7.ownBlock=some b→m.ownBlock=some b∨wr.heap.size≤b) (he:w8=d.setCell ⟨w.heap.size+1,i,none⟩ v7) :
  RowsAt w8 (fun k=>w.heap.size+2≤k∧k<w8.heap.size) v7 (rows++[ib])∧RowsAt w8 (fun k=>w.heap.size+2≤k∧k<w8.heap.size) r orows∧(∀ k,v7.ownBlock=some k→r.ownBlock≠some k)∧Below w.heap.size w w8∧TabAt w8 w.heap.size []∧w8.heap[w.heap.size+1]?=some (.cells (C.toArray.setIfInBounds i v7) 87 (0,0))∧wr.heap.size≤w8.heap.size:=by
 have O:w8.heap.size=d.heap.size:=by rw [he,size_setCell]
 have Q:=o.size
 have l:∀ k,k≠w.heap.size+1→w8.heap[k]?=d.heap[k]?:=fun k hk=>by rw [he];exact Below.heap_setCell d ⟨w.heap.size+1,i,none⟩ v7 k hk
 have D:∀ b,v7.ownBlock=some b→w.heap.size+2≤b∧b<d.heap.size:=fun b e=>by
  refine ⟨(F b e).elim (fun h=>(m3 b h).1) (fun h=>by omega),?_⟩
  obtain ⟨C,fz,M⟩:=s b e
  exact fw M
 have E:=fw q
 have hu:iP d (fun k=>w.heap.size+2≤k∧k<d.heap.size) (.slice (some ⟨wr.heap.size,0,none⟩) 64 64) ib:=by
  rw [vh] at q
  exact iP.BH q ⟨hw,E⟩ (by decide)
 have h1:=RowsAt.push (F7:=fun k=>w.heap.size+2≤k∧k<d.heap.size) m1 m2 m4 o B s (fun k hk=>⟨hk.1,by omega⟩) D hu
 refine ⟨(h1.fP (by omega) fun k C t fz hk _ hF=>l k (by have:=hF.1;omega)).mono fun k hk=>⟨hk.1,by omega⟩,?_,fun k e G => ?_,?_,tab.fP ((l _ (by omega)).trans (o.block _ (by omega) fun e=>by have:=m3 _ e;omega)),?_,by omega⟩
 ·have h2:=y.xx (w':=w8) (by omega) (fun k e hk=>(l k (by obtain ⟨_,_,_,h3,_⟩:=y;have:=h3 k e;omega)).trans (o.block k hk fun N=>ha k N e)) (fun k C fz hk hF=>(l k (by have:=hF.1;omega)).trans (o.block k (fw hk) fun e=>by
   obtain ⟨S,R,I⟩:=m2 k e
   rw [hk] at I
   cases I))
  exact h2.mono fun k hk=>⟨hk.1,by omega⟩
 ·rcases F k e with h | h
  ·exact ha k h G
  ·obtain ⟨_,_,_,h3,_⟩:=y
   have:=h3 k G
   omega
 ·rw [he]
  exact (J.trans (o.below (by omega) fun j U e=>by have:=m3 j e;omega)).setCell (p:=⟨w.heap.size+1,i,none⟩) (by simp) v7
 ·rw [he]
  exact heap_setCell _ _ i v7 x
theorem RowsAt.nil (w:World) (F:Nat→Prop):RowsAt w F (.slice none 0 0) []:=⟨[],OwnS.nil _ _ _,CellsOf.nil _ _,fun k e=>by simp [Value.ownBlock] at e,fun i b h=>by simp at h⟩
def rr (l:List Int) (k:Nat) (v:Int) (t:Nat):Int:=if t<k then nm l t else if t=k then v else 0
theorem xG (l:List Int) (k:Nat) (t:Nat):rr l (k+1) 0 t=rr l k (nm l k) t:=by
 unfold rr
 by_cases h:t<k
 ·rw [aB h,aB (by omega)]
 ·by_cases h2:t=k
  ·subst h2
   rw [au h,aB rfl,aB (by omega)]
  ·rw [au h,au h2,au (by omega),b]
where b {p:Prop} [Decidable p]:(if p then (0:Int) else 0)=0:=by split <;> rfl
def wV (w:World) (n:Nat) (l:List Int) (k:Nat) (v:Int) (wr:World):Prop:=∃ b d,HostIs wr (w.heap.size+1) (vG b d w.heap.size (rr l k v 0) (rr l k v 1) (rr l k v 2))∧RowsAt wr (fun k=>w.heap.size+2≤k∧k<wr.heap.size) b (List.replicate n ib)∧RowsAt wr (fun k=>w.heap.size+2≤k∧k<wr.heap.size) d (List.replicate n ib)∧
 (∀ k,b.ownBlock=some k→d.ownBlock≠some k)∧Below w.heap.size w wr∧TabAt wr w.heap.size []
theorem wk.G0 {w wr:World} {n:Nat} {l:List Int} (h:wk w n wr):wV w n l 0 0 wr:=by
 obtain ⟨b,d,h1,h2⟩:=h
 exact ⟨b,d,h1,h2⟩
theorem wV.next {w wr:World} {n k:Nat} {l:List Int} (h:wV w n l k (nm l k) wr):wV w n l (k+1) 0 wr:=by
 obtain ⟨b,d,h1,h2⟩:=h
 exact ⟨b,d,by rw [xG,xG,xG];exact h1,h2⟩
theorem wV.cell {w wr:World} {n k:Nat} {l:List Int} {v:Int} (h:wV w n l k v wr) (hk:k<3):wr.cell? ⟨w.heap.size+1,7+k,none⟩=some (.int .i64 v)∧wr.frozen? ⟨w.heap.size+1,7+k,none⟩=false:=by
 obtain ⟨b,d,h1,-⟩:=h
 refine ⟨?_,aj _ _ _ _ _ h1⟩
 obtain rfl | rfl | rfl:k=0∨k=1∨k=2:=by omega
 ·exact ae _ _ 7 _ _ _ h1
 ·exact ae _ _ 8 _ _ _ h1
 ·exact ae _ _ 9 _ _ _ h1
theorem wV.set {w wr:World} {n k:Nat} {l:List Int} {v:Int} (h:wV w n l k v wr) (hk:k<3) (v':Int):wV w n l k v' (wr.setCell ⟨w.heap.size+1,7+k,none⟩ (.int .i64 v')):=by
 obtain ⟨i,m,h1,h2,h3,h4,h5,h6⟩:=h
 have b:∀ j,j≠w.heap.size+1→(wr.setCell ⟨w.heap.size+1,7+k,none⟩ (.int .i64 v')).heap[j]?=wr.heap[j]?:=fun j o=>Below.heap_setCell wr ⟨w.heap.size+1,7+k,none⟩ _ j o
 have d:(wr.setCell ⟨w.heap.size+1,7+k,none⟩ (.int .i64 v')).heap.size=wr.heap.size:=size_setCell _ _ _
 refine ⟨i,m,?_,?_,?_,h4,h5.setCell (p:=⟨w.heap.size+1,7+k,none⟩) (by simp) _,h6.fP (b _ (by omega))⟩
 ·have:=heap_setCell _ _ (7+k) (.int .i64 v') h1
  obtain rfl | rfl | rfl:k=0∨k=1∨k=2:=by omega
  all_goals exact this
 ·rw [d]
  exact h2.fP (by omega) fun k C t fz hk _ hF=>b k (by have:=hF.1;omega)
 ·rw [d]
  exact h3.fP (by omega) fun k C t fz hk _ hF=>b k (by have:=hF.1;omega)
theorem wV.drew {w wr:World} {n k:Nat} {l:List Int} {v:Int} (h:wV w n l k v wr):wV w n l k v wr.drew:=by
 obtain ⟨b,d,h1,h2,h3,h4,h5,h6⟩:=h
 exact ⟨b,d,h1,h2,h3,h4,h5.drew,h6⟩
theorem wV.host {w wr:World} {n:Nat} {l:List Int} (h:wV w n l 3 0 wr):HostAt wr (fun k=>w.heap.size≤k∧k<wr.heap.size) (w.heap.size+1) (mc n (roomN l))∧Below w.heap.size w wr:=by
 obtain ⟨d,i,h1,h2,h3,h4,h5,h6⟩:=h
 have b:=fw h1
 refine ⟨⟨_,⟨h1,rfl,rfl,?_,h6,OwnS.nil _ _ _,CellsOf.nil _ _,⟨aK _,aK _⟩,⟨by show -1≤(-1:Int);omega,by show (-1:Int)≤_;omega⟩⟩,rfl,rfl,h2.mono fun k hk=>⟨by omega,hk.2⟩,h3.mono fun k hk=>⟨by omega,hk.2⟩,LateAt.nil _ _,h4,⟨⟨by omega,b⟩,⟨af _,show w.heap.size<_ by omega⟩,fun k e=>by simp [vG,Value.ownBlock] at e⟩,fun k hk=>hk.2⟩,h5⟩
 funext t
 match t with
 | 0=>rfl
 | 1=>rfl
 | t+2=>rfl
theorem y6 (r:Int) (l:List Int) (rv:Value) (w:World) (hr:fH w rv 1 l.length (l.map fun i => .int .i64 i)) (n:Nat) (hn:(n:Int)=min (max r 32) 128) :
  Calls Tryz.prog 77 #[.int .i64 r,rv] w fun e w'=>∃ h,e = .returned (.pointer (some ⟨h,0,none⟩))∧HostAt w' (fun k=>w.heap.size≤k∧k<w'.heap.size) h (mc n (roomN l))∧Below w.heap.size w w':=by
 have fd := @run_makeMap Tryz.prog
 have HN:=ab hn
 have fg:32≤n∧n≤128:=by omega
 have HR:=ab hr
 obtain ⟨-,ra,rc,rfl,fi,-⟩:=hr
 clear hn
 go_enter Tryz.func77,Tryz.ntmps77
 go_wp2
 rw [←HN.out]
 have ce:Below w.heap.size w ((w.alloc (.map #[] 0)).alloc (.cells #[.slice none 0 0,.slice none 0 0,.slice none 0 0,.int .i64 (-1),.int .i64 (-1),.bool false,.int .i64 0,.int .i64 0,.int .i64 0,.int .i64 0,.map (some w.heap.size),.slice none 0 0] 87)):=((Below.refl _ w).alloc (af _) _).alloc (by simp) _
 have R1:=fA (w.alloc (.map #[] 0)) (.cells #[.slice none 0 0,.slice none 0 0,.slice none 0 0,.int .i64 (-1),.int .i64 (-1),.bool false,.int .i64 0,.int .i64 0,.int .i64 0,.int .i64 0,.map (some w.heap.size),.slice none 0 0] 87)
 rw [ax] at R1
 have T0:=(TabAt.new w).fP (heap_alloc_old (w.alloc (.map #[] 0)) (.cells #[.slice none 0 0,.slice none 0 0,.slice none 0 0,.int .i64 (-1),.int .i64 (-1),.bool false,.int .i64 0,.int .i64 0,.int .i64 0,.int .i64 0,.map (some w.heap.size),.slice none 0 0] 87) (by simp))
 have a3:Hid (wk w 0 ((w.alloc (.map #[] 0)).alloc (.cells #[.slice none 0 0,.slice none 0 0,.slice none 0 0,.int .i64 (-1),.int .i64 (-1),.bool false,.int .i64 0,.int .i64 0,.int .i64 0,.int .i64 0,.map (some w.heap.size),.slice none 0 0] 87))):=ab ⟨.slice none 0 0,.slice none 0 0,R1,RowsAt.nil _ _,RowsAt.nil _ _,fun k e=>by simp [Value.ownBlock] at e,ce,T0⟩
 clear ce R1 T0
 have fk:∀ w,(Instr.makeSlice 59 (.int .i64 64) (.int .i64 64)).run Tryz.prog w = .ok (.slice (some ⟨w.heap.size,0,none⟩) 64 64) (w.alloc (.cells (madeCells #[.int .u8 0] 64) 5)):=fun w =>
  run_make_row' 59 5 (.int .u8 0) 1 Tryz.underlying59 (by kernel_rfl) rfl .i64 .i64 64 (by omega) (by omega) w
 go_loopw [13] (fun i wr=>∃ k:Nat,k≤n∧i = .int .i64 (k:Int)∧wk w k wr) (fun i _=>n-(intOf i).toNat)
 case atStart=>exact ⟨0,aK _,rfl,a3.out⟩
 case round =>
  obtain ⟨k,hk,rfl,ci⟩:=hrel
  have X:=ab ci
  obtain ⟨hv,sv,r1,r2,r3,r4,r5,r6⟩:=ci
  have a4:=ab r1
  have d4:=ab r2
  have d5:=ab r3
  have a5:=ab r4
  have a6:=ab r5
  have a7:=ab r6
  have cl:=r5.size
  have I:w.heap.size+2≤wr.heap.size:=fw r1
  unfold HostIs HV.cells vG at r1
  simp only at r1
  have co:=fw r1
  obtain ⟨vals,v1,v2,v3,v4⟩:=r2
  obtain ⟨b7,s1,s2,s3,s4⟩:=r3
  rw [bu] at v1 s1
  obtain ⟨va,vc,rfl⟩:=v1.shape
  obtain ⟨J,M,rfl⟩:=s1.shape
  have c0:wr.cell? ⟨w.heap.size+1,0,none⟩=some (.slice va k vc):=ae _ _ 0 _ _ _ r1
  have cp:=aj _ _ 0 _ _ r1
  have Y:=ab v1
  have Z:=ab v2
  have aa:=ab v3
  have bb:=ab v4
  have bc:=ab s1
  have bd:=ab s2
  have bi:=ab s3
  have bk:=ab s4
  have bl:=ab (v2.ne r1 (by decide))
  have bn:=ab (s2.ne r1 (by decide))
  clear r1 r4 r5 r6 v1 v2 v3 v4 s1 s2 s3 s4 a3
  by_cases fl:k<n
  ·have g1:(k:Int)<n:=by omega
   have ag:=fun o N=>ab (Below.drew (Below.al (Below.al (Below.rf wr) o) N))
   have O:=ab (uu (wr.alloc (.cells (madeCells #[.int .u8 0] 64) 5)) (.slice (some ⟨wr.heap.size,0,none⟩) 64 64))
   rw [ax] at O
   have ak:=fun o=>ab (fT o c0)
   have am:=fun o N=>ab (fT N (fT o c0))
   go_wp2
   refine gW (n:=10) (S:=(fun w'=>w'.cell? ⟨w.heap.size+1,0,none⟩=some (.slice va k vc))) (by kernel_rfl) (by kernel_rfl) rfl (by first | exact c0 | exact (ak _).out | exact (am _ _).out) ?_
   intro Q
   simp only [cH,bW,cw,cG,bj,bY,aZ,bm,bJ,aO,aV]
   refine wpAnyH_take (i:=0) (v := ?_) rfl (by kernel_rfl) (by kernel_rfl) (by kernel_rfl) (fun _ _ _ h=>h) (Or.inl ⟨by rfl,?_⟩) (by assumption) ?_
   rotate_left 1
   ·(intro w d;(try dsimp only at d);go_simp;(try with_reducible rfl))
   try simp only [Act.put,ah,ai]
   refine wpAnyH_take (i:=1) (v := ?_) rfl (by kernel_rfl) (by kernel_rfl) (by kernel_rfl) (fun _ _ _ h=>h) (Or.inl ⟨by rfl,?_⟩) (by assumption) ?_
   rotate_left 1
   ·(intro w d;(try dsimp only at d);go_simp;(try with_reducible rfl))
   try simp only [Act.put,ah,ai,ao]
   refine wpAnyH_take (i:=2) (v := ?_) rfl (by kernel_rfl) (by kernel_rfl) (by kernel_rfl) (fun _ _ _ h=>h) (Or.inl ⟨by rfl,?_⟩) (by assumption) ?_
   rotate_left 1
   ·(intro w d;(try dsimp only at d);go_simp;(try with_reducible rfl))
   try simp only [Act.put,ah,ai,ao]
   refine wpAnyH_take (i:=3) (v := ?_) rfl (by kernel_rfl) (by kernel_rfl) (by kernel_rfl) (fun _ _ _ h=>h) (Or.inl ⟨by rfl,?_⟩) (by assumption) ?_
   rotate_left 1
   ·(intro w d;(try dsimp only at d);go_simp;(try with_reducible rfl))
   try simp only [Act.put,ah,ai,ao]
   refine wpAnyH_take (i:=4) (v := ?_) rfl (by kernel_rfl) (by kernel_rfl) (by kernel_rfl) (fun _ _ _ h=>h) (Or.inl ⟨by rfl,?_⟩) (by assumption) ?_
   rotate_left 1
   ·(intro w d;(try dsimp only at d);go_simp;(try with_reducible rfl))
   try simp only [Act.put,ah,ai,ao]
   refine wpAnyH_ready (rs:=[5]) (by kernel_rfl) (by simp) ?_
   refine AllReadyH.cons rfl ?_ AllReadyH.nil
   intro m hK'
   go_simp
   refine hK'.out _ _ (by first | exact c0 | exact (ak _).out | exact (am _ _).out) ?_
   clear hK' m
   intro R
   try simp only [ah,ai,ao]
   refine wpAnyH_ready (rs:=[6]) (by kernel_rfl) (by simp) ?_
   refine AllReadyH.cons rfl ?_ AllReadyH.nil
   intro m hK'
   go_simp
   refine hK'.out _ _ (by first | exact c0 | exact (ak _).out | exact (am _ _).out) ?_
   clear hK' m
   intro U
   try simp only [ah,ai,ao]
   refine wpAnyH_ready (rs:=[7]) (by kernel_rfl) (by simp) ?_
   refine AllReadyH.cons rfl ?_ AllReadyH.nil
   intro m hK'
   refine ku rfl (.tmp 19) (.tmp 21) 82 59 1 24 (.slice none 0 0) Tryz.underlying82 yl rfl (by decide) rfl 0 (.slice va k vc) k vals rfl (by exact Y.out.below (ag _ _).out) (by exact Z.out.frame fun b _ hb=>(ag _ _).out.block b hb) 1 [.slice (some ⟨wr.heap.size,0,none⟩) 64 64] (by exact O.out) (by intro u hu;simp at hu;rw [hu];rfl) (by omega) (by omega) (aK _) ?_;intro v7 w7 s bo br cq;obtain ⟨bs,bt,rfl⟩:=s.shape;have bv:=ab bo;have cr:=ab s;have cs:=ab br;have ct:=ab cq;have bw:=ir bo bl.out (fG _ _ (fG _ _ a4.out));have ap:=ab bw;have f6:w7.cell? ⟨w.heap.size+1,0,none⟩=some (.slice va k vc):=ae _ _ 0 _ _ _ bw;clear s bo br cq bw;refine hK'.out _ _ f6 ?_
   clear hK' m
   intro bx
   try simp only [Act.put,ah,ai,ao]
   refine wpAnyH_take (i:=8) (v := ?_) rfl (by kernel_rfl) (by kernel_rfl) (by kernel_rfl) (fun _ _ _ h=>h) (Or.inl ⟨by rfl,?_⟩) (by assumption) ?_
   rotate_left 1
   ·(intro w d;(try dsimp only at d);go_simp;(try with_reducible rfl))
   try simp only [Act.put,ah,ai,ao]
   refine wpAnyH_take (i:=9) (v := ?_) rfl (by kernel_rfl) (by kernel_rfl) (by kernel_rfl) (fun _ _ _ h=>h) (Or.inl ⟨by rfl,?_⟩) (by assumption) ?_
   rotate_left 1
   ·(intro w d;(try dsimp only at d);go_simp;(try with_reducible rfl))
   try simp only [Act.put,ah,ai,ao]
   refine wpAnyH_done (by kernel_rfl) ?_ _
   show Oper.wp _ _ _ _ _ _
   have d8:=aj _ _ 0 _ _ ap.out
   have d9:=fw ap.out
   go_wp2_with fail
   generalize cu:w7.setCell ⟨w.heap.size+1,0,none⟩ (.slice bs (k+1) bt)=w8
   have B:∀ x,(Value.slice va k vc).ownBlock=some x→x<wr.heap.size:=fun x e=>(aa.out x e).2
   have C:=(Ext.fD (S:=fun x=>(Value.slice va k vc).ownBlock=some x) (ag (.cells (madeCells #[.int .u8 0] 64) 5) (.cells #[.slice (some ⟨wr.heap.size,0,none⟩) 64 64] 59)).out).trans (nD bv.out)
   have D:=ir bv.out (b:=wr.heap.size) (fun e=>absurd (B _ e) (dw _)) (fG (wr.alloc (.cells (madeCells #[.int .u8 0] 64) 5)) (.cells #[.slice (some ⟨wr.heap.size,0,none⟩) 64 64] 59) (fA wr (.cells (madeCells #[.int .u8 0] 64) 5)))
   have eb:=DM (rows:=List.replicate k ib) (orows:=List.replicate k ib) (i:=0) a6.out I ap.out (by rw [bu];exact Y.out) Z.out aa.out bb.out ⟨b7,by rw [bu];exact bc.out,bd.out,bi.out,bk.out⟩ a5.out a7.out C D (by rw [bu];exact cr.out) cs.out (fun b e=>(ct.out b e).imp id fun e=>by rw [e];show _≤(World.alloc (World.alloc wr _) _).heap.size;rw [ax,ax];omega) cu.symm
   obtain ⟨n1,n2,n3,n4,n5,n6,n7⟩:=eb
   have q:HostIs w8 (w.heap.size+1) (vG (.slice bs (k+1) bt) (.slice J k M) w.heap.size 0 0 0):=n6
   obtain ⟨bL,s1,s2,s3,s4⟩:=n2
   rw [bu] at s1
   have bM:w.heap.size+2≤w8.heap.size:=by omega
   have d0:w8.cell? ⟨w.heap.size+1,1,none⟩=some (.slice J k M):=ae _ _ 1 _ _ _ q
   have fn:=aj _ _ 1 _ _ q
   have cv:=ab s1
   have cB:=ab s2
   have c1:=ab s3
   have ec:=ab s4
   have J1:=ab n1
   have J3:=ab n3
   have J4:=ab n4
   have J5:=ab n5
   have J6:=ab q
   have eg:=ab (s2.ne q (by decide))
   have ej:=ab bM
   have V:=fun o N=>ab (Below.drew (Below.al (Below.al (Below.rf w8) o) N))
   have av:=ab (uu (w8.alloc (.cells (madeCells #[.int .u8 0] 64) 5)) (.slice (some ⟨w8.heap.size,0,none⟩) 64 64))
   rw [ax] at av
   have bN:=fun o=>ab (fT o d0)
   have bO:=fun o N=>ab (fT N (fT o d0))
   clear s1 s2 s3 s4 n1 n3 n4 n5 n6 q n7 C D bM cu Q R U bx f6 d8 d9 c0 cp ak am O ag cl I co bv cr cs ct ap Y Z aa bb bc bd bi bk bl bn a4 a5 a6 a7 B
   have fo:=ab (fw J6.out)
   refine gW (n:=10) (S:=(fun w'=>w'.cell? ⟨w.heap.size+1,1,none⟩=some (.slice J k M))) (by kernel_rfl) (by kernel_rfl) rfl (by first | exact d0 | exact (bN _).out | exact (bO _ _).out) ?_
   intro Q
   simp only [cH,bW,cw,cG,bj,bY,aZ,bm,bJ,aO,aV]
   refine wpAnyH_take (i:=0) (v := ?_) rfl (by kernel_rfl) (by kernel_rfl) (by kernel_rfl) (fun _ _ _ h=>h) (Or.inl ⟨by rfl,?_⟩) (by assumption) ?_
   rotate_left 1
   ·(intro w d;(try dsimp only at d);go_simp;(try with_reducible rfl))
   try simp only [Act.put,ah,ai]
   refine wpAnyH_take (i:=1) (v := ?_) rfl (by kernel_rfl) (by kernel_rfl) (by kernel_rfl) (fun _ _ _ h=>h) (Or.inl ⟨by rfl,?_⟩) (by assumption) ?_
   rotate_left 1
   ·(intro w d;(try dsimp only at d);go_simp;(try with_reducible rfl))
   try simp only [Act.put,ah,ai,ao]
   refine wpAnyH_take (i:=2) (v := ?_) rfl (by kernel_rfl) (by kernel_rfl) (by kernel_rfl) (fun _ _ _ h=>h) (Or.inl ⟨by rfl,?_⟩) (by assumption) ?_
   rotate_left 1
   ·(intro w d;(try dsimp only at d);go_simp;(try with_reducible rfl))
   try simp only [Act.put,ah,ai,ao]
   refine wpAnyH_take (i:=3) (v := ?_) rfl (by kernel_rfl) (by kernel_rfl) (by kernel_rfl) (fun _ _ _ h=>h) (Or.inl ⟨by rfl,?_⟩) (by assumption) ?_
   rotate_left 1
   ·(intro w d;(try dsimp only at d);go_simp;(try with_reducible rfl))
   try simp only [Act.put,ah,ai,ao]
   refine wpAnyH_take (i:=4) (v := ?_) rfl (by kernel_rfl) (by kernel_rfl) (by kernel_rfl) (fun _ _ _ h=>h) (Or.inl ⟨by rfl,?_⟩) (by assumption) ?_
   rotate_left 1
   ·(intro w d;(try dsimp only at d);go_simp;(try with_reducible rfl))
   try simp only [Act.put,ah,ai,ao]
   refine wpAnyH_ready (rs:=[5]) (by kernel_rfl) (by simp) ?_
   refine AllReadyH.cons rfl ?_ AllReadyH.nil
   intro m hK'
   go_simp
   refine hK'.out _ _ (by first | exact d0 | exact (bN _).out | exact (bO _ _).out) ?_
   clear hK' m
   intro R
   try simp only [ah,ai,ao]
   refine wpAnyH_ready (rs:=[6]) (by kernel_rfl) (by simp) ?_
   refine AllReadyH.cons rfl ?_ AllReadyH.nil
   intro m hK'
   go_simp
   refine hK'.out _ _ (by first | exact d0 | exact (bN _).out | exact (bO _ _).out) ?_
   clear hK' m
   intro U
   try simp only [ah,ai,ao]
   refine wpAnyH_ready (rs:=[7]) (by kernel_rfl) (by simp) ?_
   refine AllReadyH.cons rfl ?_ AllReadyH.nil
   intro m hK'
   refine ku rfl (.tmp 29) (.tmp 31) 82 59 1 24 (.slice none 0 0) Tryz.underlying82 yl rfl (by decide) rfl 0 (.slice J k M) k bL rfl (by exact cv.out.below (V _ _).out) (by exact cB.out.frame fun b _ hb=>(V _ _).out.block b hb) 1 [.slice (some ⟨w8.heap.size,0,none⟩) 64 64] (by exact av.out) (by intro u hu;simp at hu;rw [hu];rfl) (by omega) (by omega) (aK _) ?_;intro v9 w9 y bP bS c2;obtain ⟨c3,c4,rfl⟩:=y.shape;have bX:=ab bP;have c5:=ab y;have c6:=ab bS;have c7:=ab c2;have b0:=ir bP eg.out (fG _ _ (fG _ _ J6.out));have aE:=ab b0;have f7:w9.cell? ⟨w.heap.size+1,1,none⟩=some (.slice J k M):=ae _ _ 1 _ _ _ b0;clear y bP bS c2 b0;refine hK'.out _ _ f7 ?_
   clear hK' m
   intro bx
   try simp only [Act.put,ah,ai,ao]
   refine wpAnyH_take (i:=8) (v := ?_) rfl (by kernel_rfl) (by kernel_rfl) (by kernel_rfl) (fun _ _ _ h=>h) (Or.inl ⟨by rfl,?_⟩) (by assumption) ?_
   rotate_left 1
   ·(intro w d;(try dsimp only at d);go_simp;(try with_reducible rfl))
   try simp only [Act.put,ah,ai,ao]
   refine wpAnyH_take (i:=9) (v := ?_) rfl (by kernel_rfl) (by kernel_rfl) (by kernel_rfl) (fun _ _ _ h=>h) (Or.inl ⟨by rfl,?_⟩) (by assumption) ?_
   rotate_left 1
   ·(intro w d;(try dsimp only at d);go_simp;(try with_reducible rfl))
   try simp only [Act.put,ah,ai,ao]
   refine wpAnyH_done (by kernel_rfl) ?_ _
   show Oper.wp _ _ _ _ _ _
   have en:=aj _ _ 1 _ _ aE.out
   have er:=fw aE.out
   go_wp2_with fail
   generalize b1:w9.setCell ⟨w.heap.size+1,1,none⟩ (.slice c3 (k+1) c4)=b2
   have B:∀ x,(Value.slice J k M).ownBlock=some x→x<w8.heap.size:=fun x e=>(c1.out x e).2
   have C:=(Ext.fD (S:=fun x=>(Value.slice J k M).ownBlock=some x) (V (.cells (madeCells #[.int .u8 0] 64) 5) (.cells #[.slice (some ⟨w8.heap.size,0,none⟩) 64 64] 59)).out).trans (nD bX.out)
   have D:=ir bX.out (b:=w8.heap.size) (fun e=>absurd (B _ e) (dw _)) (fG (w8.alloc (.cells (madeCells #[.int .u8 0] 64) 5)) (.cells #[.slice (some ⟨w8.heap.size,0,none⟩) 64 64] 59) (fA w8 (.cells (madeCells #[.int .u8 0] 64) 5)))
   have eD:=DM (rows:=List.replicate k ib) (orows:=List.replicate k ib++[ib]) (i:=1) J4.out ej.out aE.out (by rw [bu];exact cv.out) cB.out c1.out ec.out J1.out (fun x e f5=>J3.out x f5 e) J5.out C D (by rw [bu];exact c5.out) c6.out (fun b e=>(c7.out b e).imp id fun e=>by rw [e];show _≤(World.alloc (World.alloc w8 _) _).heap.size;rw [ax,ax];omega) b1.symm
   obtain ⟨n1,n2,n3,n4,n5,n6,n7⟩:=eD
   have q:HostIs b2 (w.heap.size+1) (vG (.slice bs (k+1) bt) (.slice c3 (k+1) c4) w.heap.size 0 0 0):=n6
   have cb:Hid (wk w (k+1) b2):=ab ⟨_,_,q,by rw [List.replicate_succ'];exact n2,by rw [List.replicate_succ'];exact n1,fun x e f5=>n3 x f5 e,n4,n5⟩
   have fp:Hid (w8.heap.size≤b2.heap.size):=ab n7
   clear C D B n1 n2 n3 n4 n5 n6 q n7 b1 bX c5 c6 c7 aE f7 en er
   go_wp2
   go_roundw
   case rel=>exact ⟨k+1,by omega,rfl,cb.out⟩
   case measure=>simp [intOf];omega
  ·have g1:¬((k:Int)<n):=by omega
   obtain rfl:k=n:=by omega
   have eS:Hid (wV w k l 0 0 wr):=ab (wk.G0 (X.out))
   have fr:=a6
   clear a4 d4 d5 a5 a7 Y Z aa bb bc bd bi bk bl bn c0 cp cl I co X
   go_wp2
   go_loopw [36] (fun i eT=>∃ j:Nat,j≤3∧i = .int .i64 (j:Int)∧wV w k l j 0 eT) (fun i _=>3-(intOf i).toNat)
   case atStart=>exact ⟨0,aK _,rfl,eS.out⟩
   case round =>
    obtain ⟨j,hj,rfl,hR⟩:=hrel
    have b3:=ab hR
    clear hR
    by_cases E:j<3
    ·have g2:(j:Int)<3:=by omega
     have c8:=b3.out.cell E
     have fv:=c8.1
     have fz:=c8.2
     have F:Hid (wV w k l j 40 (wr.setCell ⟨w.heap.size+1,7+j,none⟩ (.int .i64 40))):=ab (b3.out.set E 40)
     have b4:∀ W,wV w k l j (nm l j) W→wV w k l (j+1) 0 W:=fun W h=>h.next
     by_cases a0:j<l.length
     ·have g3:(j:Int)<(l.length:Int):=by omega
      have c9:Below w.heap.size w (wr.setCell ⟨w.heap.size+1,7+j,none⟩ (.int .i64 40)):=by obtain ⟨_,_,_,_,_,_,h5,_⟩:=F.out;exact h5
      have e1:=fH.below HR.out c9
      obtain ⟨-,_,_,e0,-,da⟩:=e1
      injection e0 with f8 f5 e3
      subst f8
      obtain ⟨g,off,rfl,G⟩:=da j (by rw [aG];exact a0)
      rw [eL] at G
      clear da c9 e3
      have b5:=ab (show nm l j=min (max l[j] 0) 40 by unfold nm;rw [aB a0,aN,aw a0];rfl)
      have b6:=(F.out.cell E).1
      have f0:=(F.out.cell E).2
      generalize e2:l[j]=x at G
      go_wp2
      refine gW (n:=11) (S:=(fun w'=>w'.cell? ⟨w.heap.size+1,7+j,none⟩=some (.int .i64 40)∧w'.cell? ⟨g,off+j,none⟩=some (.int .i64 x))) (by kernel_rfl) (by kernel_rfl) rfl (by exact ⟨b6,G⟩) ?_
      intro Q
      simp only [cH,bW,cw,cG,bj,bY,aZ,bm,bJ,aO,aV]
      refine wpAnyH_take (i:=0) (v := ?_) rfl (by kernel_rfl) (by kernel_rfl) (by kernel_rfl) (fun _ _ _ h=>h) (Or.inl ⟨by rfl,?_⟩) (by assumption) ?_
      rotate_left 1
      ·(intro w d;(try dsimp only at d);go_simp;(try with_reducible rfl))
      try simp only [Act.put,ah,ai]
      refine wpAnyH_take (i:=1) (v := ?_) rfl (by kernel_rfl) (by kernel_rfl) (by kernel_rfl) (fun _ _ _ h=>h) (Or.inl ⟨by rfl,?_⟩) (by assumption) ?_
      rotate_left 1
      ·(intro w d;(try dsimp only at d);go_simp;(try with_reducible rfl))
      try simp only [Act.put,ah,ai,ao]
      refine wpAnyH_take (i:=2) (v := ?_) rfl (by kernel_rfl) (by kernel_rfl) (by kernel_rfl) (fun _ _ _ h=>h) (Or.inl ⟨by rfl,?_⟩) (by assumption) ?_
      rotate_left 1
      ·(intro w d;(try dsimp only at d);go_simp;(try with_reducible rfl))
      try simp only [Act.put,ah,ai,ao]
      refine wpAnyH_take (i:=3) (v := ?_) rfl (by kernel_rfl) (by kernel_rfl) (by kernel_rfl) (fun _ _ _ h=>h) (Or.inl ⟨by rfl,?_⟩) (by assumption) ?_
      rotate_left 1
      ·(intro w d;(try dsimp only at d);go_simp;(try with_reducible rfl))
      try simp only [Act.put,ah,ai,ao]
      refine wpAnyH_take (i:=4) (v := ?_) rfl (by kernel_rfl) (by kernel_rfl) (by kernel_rfl) (fun _ _ _ h=>h) (Or.inl ⟨by rfl,?_⟩) (by assumption) ?_
      rotate_left 1
      ·(intro w d;(try dsimp only at d);go_simp;(try with_reducible rfl))
      try simp only [Act.put,ah,ai,ao]
      refine wpAnyH_take (i:=5) (v := ?_) rfl (by kernel_rfl) (by kernel_rfl) (by kernel_rfl) (fun _ _ _ h=>h) (Or.inl ⟨by rfl,?_⟩) (by assumption) ?_
      rotate_left 1
      ·(intro w d;(try dsimp only at d);go_simp;(try with_reducible rfl))
      try simp only [Act.put,ah,ai,ao]
      refine wpAnyH_take (i:=8) (v := ?_) rfl (by kernel_rfl) (by kernel_rfl) (by kernel_rfl) (fun _ _ _ h=>h) (Or.inl ⟨by rfl,?_⟩) (by assumption) ?_
      rotate_left 1
      ·(intro w d;(try dsimp only at d);go_simp;(try with_reducible rfl))
      try simp only [Act.put,ah,ai,ao]
      refine wpAnyH_take (i:=9) (v := ?_) rfl (by kernel_rfl) (by kernel_rfl) (by kernel_rfl) (fun _ _ _ h=>h) (Or.inl ⟨by rfl,?_⟩) (by assumption) ?_
      rotate_left 1
      ·(intro w d;(try dsimp only at d);go_simp;(try with_reducible rfl))
      try simp only [Act.put,ah,ai,ao]
      refine wpAnyH_ready (rs:=[6]) (by kernel_rfl) (by simp) ?_
      refine AllReadyH.cons rfl ?_ AllReadyH.nil
      intro m hK'
      go_simp
      refine hK'.out _ _ (by exact ⟨b6,G⟩) ?_
      clear hK' m
      intro R
      try simp only [ah,ai,ao]
      refine wpAnyH_ready (rs:=[7]) (by kernel_rfl) (by simp) ?_
      refine AllReadyH.cons rfl ?_ AllReadyH.nil
      intro m hK'
      go_simp
      refine hK'.out _ _ (by exact ⟨b6,G⟩) ?_
      clear hK' m
      intro U
      try simp only [ah,ai,ao]
      refine wpAnyH_take (i:=10) (v := ?_) rfl (by kernel_rfl) (by kernel_rfl) (by kernel_rfl) (fun _ _ _ h=>h) (Or.inl ⟨by rfl,?_⟩) (by assumption) ?_
      rotate_left 1
      ·(intro w d;(try dsimp only at d);go_simp;(try with_reducible rfl))
      try simp only [Act.put,ah,ai,ao]
      refine wpAnyH_done (by kernel_rfl) ?_ _
      show Oper.wp _ _ _ _ _ _
      go_wp2
      refine ⟨⟨j+1,by omega,rfl,b4 _ ?_⟩,by simp [intOf];omega⟩
      subst e2
      rw [b5.out]
      exact (F.out.set E _).drew
     ·have g3:¬((j:Int)<(l.length:Int)):=by omega
      have b5:nm l j=40:=by unfold nm;rw [au a0]
      go_wp2
      refine ⟨⟨j+1,by omega,rfl,b4 _ (by rw [b5];exact F.out)⟩,by simp [intOf];omega⟩
    ·have g2:¬((j:Int)<3):=by omega
     obtain rfl:j=3:=by omega
     go_wp2
     refine aI (v := .pointer (some ⟨w.heap.size+1,0,none⟩)) (by simp [results]) rfl ⟨_,rfl,b3.out.host⟩
end Go.Proofs.YtkkfmkhbdoeglaaGreatDoor
namespace Go.Proofs.YtkkfmkhbdoeglaaGreatDoor
def inTab (k:K):Prop:=0≤k.1∧k.1<3
instance (k:K):Decidable (inTab k):=inferInstanceAs (Decidable (_∧_))
def rM (room:Nat→Int) (S:List E) (x:E):List E :=
 if inTab x.1 then (if (jb x.1 S).isSome || decide ((countS x.1.1 S:Int)<room x.1.1.toNat) then jS x.1 x.2 S else S) else S
theorem pe (l:List Int) (t:Nat):0≤nm l t∧nm l t≤40:=by
 unfold nm
 split <;> omega
theorem jT (l:List Int) (t:Nat):0≤roomN l t∧roomN l t≤40:=by
 match t with
 | 0=>exact pe l 0
 | 1=>exact pe l 1
 | _+2=>exact pe l 2
structure ThereOk (room:Nat→Int) (P:E→Prop) (S:List E):Prop where
 sorted:SortedE S
 tab:∀ x∈S,inTab x.1
 room:∀ t:Nat,t<3→(countS (t:Int) S:Int)≤room t
 mem:∀ x∈S,P x
theorem BK {S:List E} {k:K} {v:List UInt8} (b:SortedE S) (hk:(jb k S).isSome=true) (t:Int):countS t (jS k v S)≤countS t S:=by
 refine pT (sorted_put _ _ b) (fun x d => ?_) t
 rcases (iY k v S x).1 d with rfl | ⟨h,-⟩
 ·obtain ⟨u,hu⟩:=cy.1 hk
  exact az.2 ⟨_,(nj b.keys k u).1 hu,rfl⟩
 ·exact az.2 ⟨x,h,rfl⟩
theorem wZ {S:List E} {k:K} {v:List UInt8} {t:Int} (i:SortedE S) (j:k.1≠t):countS t (jS k v S)≤countS t S:=by
 rw [nl,nl]
 refine o8 ((sorted_put k v i).keys.filter _) fun y d => ?_
 obtain ⟨d,b⟩:=cf.1 d
 obtain ⟨x,l,rfl⟩:=az.1 d
 rcases (iY k v S x).1 l with rfl | ⟨h,-⟩
 ·exact absurd (dM b) j
 ·exact cf.2 ⟨az.2 ⟨x,h,rfl⟩,b⟩
theorem ThereOk.step {room:Nat→Int} {P:E→Prop} {S:List E} (h:ThereOk room P S) {x:E} (j:P x):ThereOk room P (rM room S x):=by
 unfold rM
 by_cases d:inTab x.1
 ·rw [aB d]
  by_cases hc:((jb x.1 S).isSome || decide ((countS x.1.1 S:Int)<room x.1.1.toNat))=true
  ·rw [aB hc]
   refine ⟨sorted_put _ _ h.sorted,fun y i => ?_,fun t h3 => ?_,fun y i => ?_⟩
   ·rcases (iY x.1 x.2 S y).1 i with rfl | ⟨h1,-⟩
    ·exact d
    ·exact h.tab y h1
   ·have h1:=h.room t h3
    by_cases he:x.1.1=(t:Int)
    ·rcases cz (jb x.1 S).isSome with b | b
     ·have:=BK (v:=x.2) h.sorted b (t:Int)
      omega
     ·rw [b,Bool.false_or,de,he] at hc
      have h2:=uC (v:=x.2) h.sorted (Option.not_isSome_iff_eq_none.1 (by rw [b];decide))
      rw [he] at h2
      rw [dN] at hc
      omega
    ·have:=wZ (v:=x.2) h.sorted he
     omega
   ·rcases (iY x.1 x.2 S y).1 i with rfl | ⟨h1,-⟩
    ·exact j
    ·exact h.mem y h1
  ·rw [au hc]
   exact h
 ·rw [au d]
  exact h
theorem ya {S:List E} (h:∀ x∈S,inTab x.1):S.length=countS 0 S+countS 1 S+countS 2 S:=by
 induction S with
 | nil=>rfl
 | cons x S ih =>
  have h1:=ih fun y b=>h y (by simp [b])
  obtain ⟨h2,h3⟩:=h x (by simp)
  unfold countS at h1⊢
  rw [dX,dX,dX,ar,h1]
  have h4:x.1.1=0∨x.1.1=1∨x.1.1=2:=by omega
  rcases h4 with h4 | h4 | h4 <;> simp [h4] <;> omega
theorem ThereOk.len {l:List Int} {P:E→Prop} {S:List E} (h:ThereOk (roomN l) P S):S.length≤120:=by
 have b:=h.room 0 (by omega)
 have h1:=h.room 1 (by omega)
 have h2:=h.room 2 (by omega)
 have b0:=(jT l 0).2
 have m:=(jT l 1).2
 have o:=(jT l 2).2
 have e:=ya h.tab
 have d:((countS 0 S:Nat):Int)≤roomN l 0:=b
 have i:((countS 1 S:Nat):Int)≤roomN l 1:=h1
 have j:((countS 2 S:Nat):Int)≤roomN l 2:=h2
 omega
theorem uE {S:List E} {room:Nat→Int} (h:overS S room=none):∀ t:Nat,t<3→(countS (t:Int) S:Int)≤room t:=by
 unfold overS at h
 split at h
 ·cases h
 ·split at h
  ·cases h
  ·split at h
   ·cases h
   ·intro t b
    match t,b with
    | 0,_=>show ((countS 0 S:Nat):Int)≤_;omega
    | 1,_=>show ((countS 1 S:Nat):Int)≤_;omega
    | 2,_=>show ((countS 2 S:Nat):Int)≤_;omega
theorem Fb (d:DpS) (T:List E) (hd:d.dead=false) (b:SortedE d.S) (i:SortedE T) (hk:∀ x∈T,inTab x.1) (j:overS T d.room=none):d.run (iQ d.S T)=d.xA (iQ d.S T) (iQ d.S T).length:=by
 have:=DpS.yt d T hd b i hk (uE j) (iQ d.S T).length (af _)
 rwa [bp] at this
theorem EO (d:DpS) (os:List qD) (h:d.left<0):(d.xA os os.length).S=jw d.S os∧(d.xA os os.length).log=d.log++os.map px:=by
 unfold DpS.xA
 rw [aB h,bp]
 exact ⟨rfl,rfl⟩
theorem Ef (d:DpS) (o:qD) (y:E) (h:y∈(d.step o).S):y∈d.S∨o=(y.1,some y.2):=by
 obtain ⟨k,v⟩:=o
 have hs:d.stop.S=d.S:=rfl
 cases v with
 | none =>
  unfold DpS.step DpS.drop at h
  simp only at h
  split at h
  ·exact .inl h
  ·exact .inl ((lQ k _ y).1 h).1
 | some v =>
  unfold DpS.step DpS.put at h
  simp only at h
  split at h
  ·exact .inl h
  ·split at h
   ·rcases (iY k v _ y).1 h with rfl | ⟨h,-⟩
    ·exact .inr rfl
    ·exact .inl h
   ·exact .inl h
theorem BX:∀ (os:List qD) (d:DpS) (y:E),y∈(d.run os).S→y∈d.S∨(y.1,some y.2)∈os
 | [],_,_,h => .inl h
 | o::os,d,y,h=>by
  rcases BX os (d.step o) y h with h | h
  ·rcases Ef d o y h with h | h
   ·exact .inl h
   ·exact .inr (by rw [h];exact cc)
  ·exact .inr (aR _ h)
theorem E0 {h w:List E} {y:E} (hm:(y.1,some y.2)∈iQ h w):y∈w:=by
 unfold iQ at hm
 rw [bQ] at hm
 rcases hm with hm | hm
 ·obtain ⟨x,-,e⟩:=az.1 hm
  injection e with d b
  cases b
 ·obtain ⟨x,i,e⟩:=az.1 hm
  injection e with d b
  injection b with j
  have:x=y:=Prod.ext d j
  rw [←this]
  exact ((lO x).1 i).1
theorem Di (d:DpS) (o:qD):(d.step o).room=d.room:=by
 obtain ⟨k,v⟩:=o
 cases v with
 | none=>unfold DpS.step DpS.drop;simp only;split <;> rfl
 | some v =>
  unfold DpS.step DpS.put
  simp only
  split
  ·rfl
  ·split <;> rfl
theorem zC:∀ (os:List qD) (d:DpS),(d.run os).room=d.room
 | [],_=>rfl
 | o::os,d=>(zC os (d.step o)).trans (Di d o)
end Go.Proofs.YtkkfmkhbdoeglaaGreatDoor
namespace Go.Proofs.YtkkfmkhbdoeglaaGreatDoor
open Go.RowKit
def oE (s:List UInt8) (w:World) (e:Ending) (w':World):Prop :=
 Below w.heap.size w w'∧match kS s with
  | .inl (n,os)=>∃ b,e = .returned (.tuple #[.agg #[.int .u64 n,b],.agg #[.int .i64 0,.int .i64 0]])∧OwnS w' w.heap.size 4 b os.length (fM os)
  | .inr (k,p)=>e = .returned (.tuple #[.agg #[.int .u64 0,.slice none 0 0],.agg #[.int .i64 k,.int .i64 p]])
theorem oE.bad {s:List UInt8} {w w':World} {e:Ending} {k p:Nat} (b:Below w.heap.size w w') (h:kS s = .inr (k,p)) (he:e = .returned (.tuple #[.agg #[.int .u64 0,.slice none 0 0],.agg #[.int .i64 k,.int .i64 p]])):oE s w e w':=by
 refine ⟨b,?_⟩
 rw [h]
 exact he
theorem oE.good {s:List UInt8} {w w':World} {e:Ending} {n:Nat} {os:List OpB} (d:Below w.heap.size w w') (h:kS s = .inl (n,os)) {b:Value} (he:e = .returned (.tuple #[.agg #[.int .u64 n,b],.agg #[.int .i64 0,.int .i64 0]])) (i:OwnS w' w.heap.size 4 b os.length (fM os)):oE s w e w':=by
 refine ⟨d,?_⟩
 rw [h]
 exact ⟨b,he,i⟩
def vH (w:World) (B:Nat) (s:List UInt8) (i:Value) (wr:World):Prop :=
 ∃ k:Nat,k≤8∧i = .int .i64 (k:Int)∧wr.heap[B]?=some (.cells #[.int .u64 0,.slice none 0 0] 34 (0,0))∧wr.heap[B+1]?=some (.cells #[.int .i64 0,.int .i64 0] 69 (0,0))∧
  wr.heap[B+1+1]?=some (.cells #[.int .u64 0,.slice none 0 0] 34 (0,0))∧wr.heap[B+1+1+1]?=some (.cells #[.int .u64 (iw (s.take k):Nat),.slice none 0 0] 34 (0,0))∧Below B w wr
theorem vH.step {w wr:World} {B k v:Nat} {s:List UInt8} {x:Nat} (hk:k<8) (m:B≤w.heap.size) (b:wr.heap[B]?=some (.cells #[.int .u64 0,.slice none 0 0] 34 (0,0))) (h1:wr.heap[B+1]?=some (.cells #[.int .i64 0,.int .i64 0] 69 (0,0)))
  (h2:wr.heap[B+1+1]?=some (.cells #[.int .u64 0,.slice none 0 0] 34 (0,0))) (h3:wr.heap[B+1+1+1]?=some (.cells #[.int .u64 (v:Nat),.slice none 0 0] 34 (0,0))) (d:Below B w wr) (i:iw (s.take (k+1))=v*256+x) (u:Int) (hu:u=256*(v:Int)+x) :
  vH w B s (.int .i64 ((k+1:Nat):Int)) (wr.setCell ⟨B+1+1+1,0,none⟩ (.int .u64 u)).drew:=by
 have e:∀ j,j≠B+1+1+1→(wr.setCell ⟨B+1+1+1,0,none⟩ (.int .u64 u)).drew.heap[j]?=wr.heap[j]?:=fun j l=>Below.heap_setCell _ ⟨B+1+1+1,0,none⟩ _ j l
 refine ⟨k+1,hk,rfl,(e _ (by omega)).trans b,(e _ (by omega)).trans h1,(e _ (by omega)).trans h2,?_,(d.setCell (p:=⟨B+1+1+1,0,none⟩) (by simp <;> omega) _).drew⟩
 have:=heap_setCell wr (B+1+1+1) 0 (.int .u64 u) h3
 rw [i,show ((v*256+x:Nat):Int)=u by omega]
 exact this
def vZ (w:World) (B n v:Nat) (s:List UInt8) (at' i:Value) (wr:World):Prop :=
 ∃ (k p:Nat) (os:List OpB) (b:Value),k≤n∧i = .int .i64 (k:Int)∧at' = .int .i64 (p:Int)∧p≤s.length∧os.length=k∧iF s n 9 [] []=iF s (n-k) p (gK os) os∧
  wr.heap[B]?=some (.cells #[.int .u64 0,.slice none 0 0] 34 (0,0))∧wr.heap[B+1]?=some (.cells #[.int .i64 0,.int .i64 0] 69 (0,0))∧
  wr.heap[B+1+1]?=some (.cells #[.int .u64 0,.slice none 0 0] 34 (0,0))∧wr.heap[B+1+1+1]?=some (.cells #[.int .u64 (v:Nat),b] 34 (0,0))∧OwnS wr (B+4) 4 b os.length (fM os)∧Below B w wr
theorem vZ.step {w w8:World} {B n v k p tq:Nat} {s:List UInt8} {os:List OpB} {o:OpB} {x:Value} {l:Option Addr} {d:Nat} (hk:k<n) (q:tq≤s.length) (r:os.length=k) (u:iF s n 9 [] []=iF s (n-k) p (gK os) os) (hc:jY s p (gK os) = .inl (o,tq))
  (y:w8.heap[B]?=some (.cells #[.int .u64 0,.slice none 0 0] 34 (0,0))) (h1:w8.heap[B+1]?=some (.cells #[.int .i64 0,.int .i64 0] 69 (0,0)))
  (h2:w8.heap[B+1+1]?=some (.cells #[.int .u64 0,.slice none 0 0] 34 (0,0))) (h3:w8.heap[B+1+1+1]?=some (.cells #[.int .u64 (v:Nat),x] 34 (0,0))) (i:OwnS w8 (B+4) 4 (.slice l (os++[o]).length d) (os++[o]).length (fM (os++[o]))) (m:Below B w w8) :
  vZ w B n v s (.int .i64 (tq:Int)) (.int .i64 ((k+1:Nat):Int)) (w8.setCell ⟨B+1+1+1,1,none⟩ (.slice l (os.length+1) d)):=by
 have e:(os++[o]).length=os.length+1:=by simp
 rw [e] at i
 have f:∀ j,j≠B+1+1+1→(w8.setCell ⟨B+1+1+1,1,none⟩ (.slice l (os.length+1) d)).heap[j]?=w8.heap[j]?:=fun j C=>Below.heap_setCell _ ⟨B+1+1+1,1,none⟩ _ j C
 refine ⟨k+1,tq,os++[o],.slice l (os.length+1) d,hk,rfl,rfl,q,by rw [e,r],?_,(f _ (by omega)).trans y,(f _ (by omega)).trans h1,(f _ (by omega)).trans h2,heap_setCell w8 _ 1 _ h3,?_,m.setCell (p:=⟨B+1+1+1,1,none⟩) (by simp <;> omega) _⟩
 ·rw [u,show n-k=(n-(k+1))+1 by omega,iF,hc]
  simp [gK]
 ·rw [e]
  exact i.frame (by rw [size_setCell];exact af _) (fun b m _=>f b (fun e=>i.apart (show B+1+1+1<B+4 by omega) (by rw [m,e])))
end Go.Proofs.YtkkfmkhbdoeglaaGreatDoor
namespace Go.Proofs.YtkkfmkhbdoeglaaGreatDoor
open Go.RowKit
def nL (w1:World) (g n:Nat) (i:Value) (wr:World):Prop :=
 ∃ k:Nat,k≤n∧i = .int .i64 k∧(∀ i,i<n→(wr.cell? ⟨g,i,none⟩).isSome=true∧wr.frozen? ⟨g,i,none⟩=false)∧g<wr.heap.size∧Ext (fun b=>b=g) w1 wr
theorem nL.step {w1 wr:World} {g n k:Nat} {v:Value} (hk:k<n) (h1:∀ i,i<n→(wr.cell? ⟨g,i,none⟩).isSome=true∧wr.frozen? ⟨g,i,none⟩=false) (h3:g<wr.heap.size) (h4:Ext (fun b=>b=g) w1 wr) :
  nL w1 g n (.int .i64 ((k+1:Nat):Int)) (wr.setCell ⟨g,k,none⟩ v):=by
 refine ⟨k+1,hk,rfl,fun i j => ?_,by rw [size_setCell];exact h3,h4.setCell _ _ (.inl rfl)⟩
 obtain ⟨hs,l⟩:=h1 i j
 refine ⟨?_,by rw [eB];exact l⟩
 by_cases d:i=k
 ·subst d
  obtain ⟨x,m⟩:=cy.1 hs
  rw [World.cell?_setCell_same (h:=m)]
  rfl
 ·rw [cF (h:=by simp <;> omega)]
  exact hs
end Go.Proofs.YtkkfmkhbdoeglaaGreatDoor
namespace Go.Proofs.YtkkfmkhbdoeglaaGreatDoor
open Go.RowKit
theorem sR (v:Nat) (sv:Value) (os:List OpB) (w:World) (hs:iy w sv os) (hg:ShapesVar w) (W:ErrVar w) (av:mB os) (f1 f2:Nat) (hw:gE v os=some (f1,f2)) (h1:1≤os.length) (h8:os.length≤2932031007402) :
  Calls Tryz.prog 42 #[.agg #[.int .u64 v,sv]] w fun e w'=>e = .returned (.tuple #[.string ⟨[].toArray⟩,mL f1 f2 0])∧Below w.heap.size w w':=by
 have a3:=rW hw
 have HS:=ab hs
 obtain ⟨a,cap,rfl,bL,-⟩:=hs.opened
 clear hs
 have HW:=ab hw
 clear hw
 simp only at a3
 have X:iy ((w.alloc (.cells #[.int .u64 (v:Int),.slice a os.length cap] 34)).alloc (.cells #[.int .i64 0,.int .i64 0,.int .i64 0] 38)) (.slice a os.length cap) os:=HS.out.below (((Below.refl _ w).alloc (af _) _).alloc (by simp) _)
 have a5:=ab X
 clear X
 have B0:Hid (((w.alloc (.cells #[.int .u64 (v:Int),.slice a os.length cap] 34)).alloc (.cells #[.int .i64 0,.int .i64 0,.int .i64 0] 38)).heap[w.heap.size]?=some (.cells #[.int .u64 (v:Int),.slice a os.length cap] 34 (0,0))):=ab (fG _ _ (fA w _))
 have R0:Hid (((w.alloc (.cells #[.int .u64 (v:Int),.slice a os.length cap] 34)).alloc (.cells #[.int .i64 0,.int .i64 0,.int .i64 0] 38)).heap[w.heap.size+1]?=some (.cells #[.int .i64 0,.int .i64 0,.int .i64 0] 38 (0,0))):=ab (by have:=fA (w.alloc (.cells #[.int .u64 (v:Int),.slice a os.length cap] 34)) (.cells #[.int .i64 0,.int .i64 0,.int .i64 0] 38);simpa using this)
 go_enter Tryz.func42,Tryz.ntmps42
 go_wp2_with (at_builtin;refine ji rfl _ (.tmp 10) rfl (w.heap.size+1+1) (.slice none 0 0) [] rfl (OwnS.nil _ _ _) os (by exact a5.out) (by simp;omega) (by simp) ?_;intro v2 w2 d a6 F _;simp only [aO] at d;obtain ⟨sa,aE,rfl⟩:=d.shape;have O:=ab (fy F (by omega) B0.out);have R2:=ab (fy F (by omega) R0.out);have c0:w2.cell? ⟨w.heap.size,0,none⟩=some (.int .u64 v):=ae _ _ 0 _ _ _ O.out;have b7:=fw O.out)
 have bH:=ab d
 have G:=d.gQ
 have bS:=ab G
 clear G
 have b8:w.heap.size+1+1≤w2.heap.size:=by simpa using a6.size
 have b2:Below w.heap.size w w2:=(((Below.refl _ w).alloc (af _) _).alloc (by simp) _).trans (F.mono (by omega))
 refine (tR v (.slice sa os.length aE) os _ (by exact d.ops) (hg.new b2) av (f1,f2) HW.out).mono ?_
 rintro e w3 ⟨ev,rfl,⟨gf,rfl,ca,Y⟩,y⟩
 have ba:=ab Y
 clear Y
 have B3:=ab (fy y (fw O.out) O.out)
 have R3:=ab (fy y (fw R2.out) R2.out)
 have Q:=ab (d.below y)
 have c4:=b2.tn y
 clear d
 go_wp2_with fail
 refine (nh gf f1 f2 _ (W.new c4) ba.out (by omega) (by omega)).mono ?_
 rintro e l ⟨rfl,s⟩
 have B4:=ab (fy s (fw B3.out) B3.out)
 have R4:=ab (fy s (fw R3.out) R3.out)
 have bl:=ab (Q.out.below s)
 have c6:=c4.tn s
 have cb:=s.size
 obtain ⟨-,a0 | ⟨g,off,b0,bn,ce,o,ci,cl,u,Z⟩⟩:=bl.out
 ·exact absurd a0.2 (by omega)
 cases bn
 have I:sZ l g off 0 os:=fun j R _=>by
  have co:=iX os
  obtain ⟨B,C,D,S⟩:=mx os j R
  rw [aw (by omega)] at B C D S
  refine ⟨?_,?_,?_,?_⟩
  ·rw [u (j*4) (by omega),B]
  ·rw [aY,u (j*4+1) (by omega),C]
  ·rw [aY,u (j*4+2) (by omega),D]
  ·rw [aY,u (j*4+3) (by omega),S]
 have aa:=ab I
 have ag:=ab (fun i (hi:i<os.length*4)=>(Z i (by omega)).2)
 clear I u Z
 go_wp2
 generalize J:l.alloc (.cells #[.int .i64 f1,.int .i64 f2,.int .i64 0] 38)=w5
 have t5:Below l.heap.size l w5:=by rw [←J];exact (Below.refl _ l).alloc (af _) _
 have F5:Hid (w5.heap[l.heap.size]?=some (.cells #[.int .i64 f1,.int .i64 f2,.int .i64 0] 38 (0,0))):=ab (by rw [←J];exact fA l _)
 clear J
 have c5:=c6.tn t5
 have B5:=ab (fy t5 (fw B4.out) B4.out)
 have R5:=ab (fy t5 (fw R4.out) R4.out)
 have h0:kM w5 g off os.length os (.int .i64 0) w5:=⟨0,aK _,rfl,fun j R hk=>by
   obtain ⟨B,C,D,S⟩:=aa.out j R hk
   exact ⟨(t5.cell (p:=⟨g,off+j*4,none⟩) o).trans B,(t5.cell (p:=⟨g,off+j*4+1,none⟩) o).trans C,(t5.cell (p:=⟨g,off+j*4+2,none⟩) o).trans D,(t5.cell (p:=⟨g,off+j*4+3,none⟩) o).trans S⟩,
  fun i hi=>(t5.frozen (p:=⟨g,off+i,none⟩) o).trans (ag.out i hi),ay o t5.size,Ext.refl _ _⟩
 have cp:=t5.size
 have cq:=fw F5.out
 have bv:g≠l.heap.size:=by omega
 clear aa ag
 go_loopw [31] (fun i wr=>kM w5 g off os.length os i wr) (fun i _=>os.length-(intOf i).toNat)
 case atStart=>exact h0
 case round =>
  clear h0
  obtain ⟨k,hk,rfl,q,m,bw,E⟩:=hrel
  have cr:=E.size
  have ak:Below w.heap.size w wr:=c5.trans (E.below (by have:=c5.size;omega) (fun j R e=>by omega))
  have BR:=ab (E.at (fun e=>by omega) B5.out)
  have r:=ab (E.at (fun e=>by omega) R5.out)
  have U:=ab (E.at (fun e=>bv e.symm) F5.out)
  by_cases M:k<os.length
  ·have q1:wr.cell? ⟨w.heap.size,1,none⟩=some (.slice a os.length cap):=ae _ _ 1 _ _ _ BR.out
   have cs:=fw BR.out
   obtain ⟨a',cap',he,bz,al⟩:=(HS.out.below ak).opened
   cases he
   obtain ⟨b,b3,rfl,c0,c1,c2,c3⟩:=al k M
   obtain ⟨d0,d1,d2,d3⟩:=q k M (af _)
   have z0:=m (k*4) (by omega)
   have z1:=m (k*4+1) (by omega)
   have z2:=m (k*4+2) (by omega)
   have z3:=m (k*4+3) (by omega)
   rw [←aY] at z1 z2 z3
   have V:=ab q
   have a1:=ab m
   have b4:(k:Int)<os.length:=by omega
   have ct:=fE c0
   have b5:=DP os[k].kind os[k].table os[k].key os[k].val
   clear al bz q m
   go_wp2
   go_quiet (fail)
   go_wp2
   exact ⟨kM.step (wr:=wr.drewN nq) M V.out a1.out bw (E.drewN _),by simp [intOf];omega⟩
  ·obtain rfl:k=os.length:=by omega
   have W:¬(os.length:Int)<os.length:=by omega
   have f0:wr.cell? ⟨l.heap.size,0,none⟩=some (.int .i64 f1):=ae _ _ 0 _ _ _ U.out
   have am:wr.cell? ⟨l.heap.size,1,none⟩=some (.int .i64 f2):=ae _ _ 1 _ _ _ U.out
   have ap:wr.cell? ⟨l.heap.size,2,none⟩=some (.int .i64 0):=ae _ _ 2 _ _ _ U.out
   have r0:wr.cell? ⟨w.heap.size+1,0,none⟩=some (.int .i64 0):=ae _ _ 0 _ _ _ r.out
   have r1:wr.cell? ⟨w.heap.size+1,1,none⟩=some (.int .i64 0):=ae _ _ 1 _ _ _ r.out
   have r2:wr.cell? ⟨w.heap.size+1,2,none⟩=some (.int .i64 0):=ae _ _ 2 _ _ _ r.out
   have z0:=aj _ _ 0 _ _ r.out
   have z1:=aj _ _ 1 _ _ r.out
   have z2:=aj _ _ 2 _ _ r.out
   have cu:=fw r.out
   have b6:=fw U.out
   have x:l.heap.size≠w.heap.size+1:=by omega
   clear q m
   go_wp2
   go_region_held3 (fun w'=>Sem.run Tryz.prog (convert 59 9 (.slice none 0 0)) w' = .ok (.string ⟨[].toArray⟩) w'∧w'.cell? ⟨l.heap.size,0,none⟩=some (.int .i64 f1)∧w'.cell? ⟨l.heap.size,1,none⟩=some (.int .i64 f2)∧w'.cell? ⟨l.heap.size,2,none⟩=some (.int .i64 0))
    (first
     | exact ⟨BytesAt.convert (BytesAt.nil _ _ _),f0,am,ap⟩
     | exact ⟨BytesAt.convert (BytesAt.nil _ _ _),iv x f0,iv x am,iv x ap⟩)
    (fail)
   go_wp2
   have B:(((wr.setCell ⟨w.heap.size+1,0,none⟩ (.int .i64 f1)).setCell ⟨w.heap.size+1,1,none⟩ (.int .i64 f2)).setCell ⟨w.heap.size+1,2,none⟩ (.int .i64 0)).cell? ⟨w.heap.size+1,0,none⟩=some (.int .i64 f1):=ae _ _ 0 _ _ _ (heap_setCell _ _ 2 _ (heap_setCell _ _ 1 _ (heap_setCell _ _ 0 _ r.out)))
   have C:(((wr.setCell ⟨w.heap.size+1,0,none⟩ (.int .i64 f1)).setCell ⟨w.heap.size+1,1,none⟩ (.int .i64 f2)).setCell ⟨w.heap.size+1,2,none⟩ (.int .i64 0)).cell? ⟨w.heap.size+1,1,none⟩=some (.int .i64 f2):=ae _ _ 1 _ _ _ (heap_setCell _ _ 2 _ (heap_setCell _ _ 1 _ (heap_setCell _ _ 0 _ r.out)))
   have D:(((wr.setCell ⟨w.heap.size+1,0,none⟩ (.int .i64 f1)).setCell ⟨w.heap.size+1,1,none⟩ (.int .i64 f2)).setCell ⟨w.heap.size+1,2,none⟩ (.int .i64 0)).cell? ⟨w.heap.size+1,2,none⟩=some (.int .i64 0):=ae _ _ 2 _ _ _ (heap_setCell _ _ 2 _ (heap_setCell _ _ 1 _ (heap_setCell _ _ 0 _ r.out)))
   refine aI (v := .tuple #[.string ⟨[].toArray⟩,.agg #[.int .i64 f1,.int .i64 f2,.int .i64 0]]) (by simp [results,Tryz.results42,go_sem,B,C,D]) rfl ⟨rfl,?_⟩
   have N:=((ak.setCell (p:=⟨w.heap.size+1,0,none⟩) (by simp) (.int .i64 f1)).setCell (p:=⟨w.heap.size+1,1,none⟩) (by simp) (.int .i64 f2)).setCell (p:=⟨w.heap.size+1,2,none⟩) (by simp) (.int .i64 0)
   exact ⟨N.os,N.tape,N.output,N.size,N.block⟩
end Go.Proofs.YtkkfmkhbdoeglaaGreatDoor
