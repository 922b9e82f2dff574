/- A part of what is proved here: lemmas and contracts of single functions. No condition but those that each names. -/
import Derived.Test.YtkkfmkhbdoeglabGreatDoorG00
import Derived.Test.YtkkfmkhbdoeglabGreatDoorG32
set_option maxHeartbeats 8000000
set_option maxRecDepth 100000
namespace Go.Proofs.YtkkfmkhbdoeglabGreatDoor
open Go.RowKit Go.Shelf
def Im (w:World) (d:List Part) (at' k P:Nat) (wr:World):Prop :=
 ∃ (st:Nat) (b:Value),wr.heap[w.heap.size+1]?=some (.cells #[.int .u64 (st:Nat),b,.int .i64 0] 316 (0,0))∧OwnS wr (w.heap.size+2) 1 b (gE d at' k).length (u8s (gE d at' k))∧CellsOf wr b 5∧Below w.heap.size w wr∧
  wr.heap[w.heap.size]?=some (.cells #[.int .u64 0,.slice none 0 0,.int .i64 0] 316 (0,0))∧
  ((k=0∧P=1)∨(1≤k∧∃ b0,d[at']?=some b0∧P=b0.of∧st=b0.stamp∧st≠0∧∀ i,i<k→nV d at' b0.stamp b0.of i=true))∧(k≤P∨k=1)∧P≤255
theorem qB {d:List Part} {at' k:Nat} {b0:Part} (b:d[at']?=some b0) (hk:k<b0.of) (h:nV d at' b0.stamp b0.of k=false):iZ d at'=none:=by
 unfold iZ
 rw [b]
 simp only
 rw [au]
 rintro ⟨-,-,h3⟩
 rw [fe] at h3
 rw [h3 k (cU.2 hk)] at h
 cases h
theorem oL {w W:World} {R:Nat} {i:Value} {data:List UInt8} (m:R=w.heap.size) (o:Below w.heap.size w W) (d:OwnS W (w.heap.size+2) 1 i data.length (u8s data)) (a b c:Value) :
  Below w.heap.size w (((W.setCell ⟨R,0,none⟩ a).setCell ⟨R,1,none⟩ b).setCell ⟨R,2,none⟩ c)∧BytesAt (((W.setCell ⟨R,0,none⟩ a).setCell ⟨R,1,none⟩ b).setCell ⟨R,2,none⟩ c) i data∧∀ k,i.ownBlock=some k→w.heap.size≤k∧k<(((W.setCell ⟨R,0,none⟩ a).setCell ⟨R,1,none⟩ b).setCell ⟨R,2,none⟩ c).heap.size:=by
 subst m
 have j:=d.gh
 refine ⟨((o.setCell (p:=⟨w.heap.size,0,none⟩) (af _) _).setCell (p:=⟨w.heap.size,1,none⟩) (af _) _).setCell (p:=⟨w.heap.size,2,none⟩) (af _) _,?_,fun k e=>⟨by have:=j k e;omega,by rw [size_setCell,size_setCell,size_setCell];exact d.gP k e⟩⟩
 have l:i.ownBlock≠some w.heap.size:=fun e=>by have:=j _ e;omega
 exact ((d.bytes.gJ ⟨w.heap.size,0,none⟩ a l).gJ ⟨w.heap.size,1,none⟩ b l).gJ ⟨w.heap.size,2,none⟩ c l
theorem EX {d:List Part} {at' k P:Nat} {st:Nat} (h:(k=0∧P=1)∨(1≤k∧∃ b0,d[at']?=some b0∧P=b0.of∧st=b0.stamp∧st≠0∧∀ i,i<k→nV d at' b0.stamp b0.of i=true)) (j:k<P) (b:d[at'+k]?=none):iZ d at'=none:=by
 rcases h with ⟨rfl,-⟩ | ⟨-,b0,l,rfl,-,-,-⟩
 ·unfold iZ
  rw [cz] at b
  rw [b]
 ·refine qB l j ?_
  unfold nV
  rw [b]
theorem E1 {b:List UInt8} (h:b.length=64):∃ x y z:UInt8,(b.drop 8).take 3=[x,y,z]∧parseSec b=⟨iP (b.take 8),x.toNat,y.toNat,decide (z.toNat≤53),(b.drop 11).take z.toNat⟩:=by
 refine ⟨b.getD 8 0,b.getD 9 0,b.getD 10 0,?_,rfl⟩
 refine List.ext_getElem? fun i => ?_
 by_cases d:i<3
 ·rw [bp d,dy]
  obtain rfl | rfl | rfl:i=0∨i=1∨i=2:=by omega
  ·rw [ay (by omega)];simp [aN,ay (show 8<b.length by omega)]
  ·rw [ay (by omega)];simp [aN,ay (show 9<b.length by omega)]
  ·rw [ay (by omega)];simp [aN,ay (show 10<b.length by omega)]
 ·rw [dm (by rw [az];omega),dm (by simp;omega)]
theorem pM {d:List Part} {at':Nat} {b0:Part} (b:d[at']?=some b0) (h:b0.stamp=0∨b0.i≠0∨b0.ok=false):iZ d at'=none:=by
 by_cases hs:b0.stamp=0
 ·unfold iZ
  rw [b]
  simp only
  rw [au (fun hc=>hc.1 hs)]
 ·by_cases j:0<b0.of
  ·refine qB b j ?_
   unfold nV
   rw [cz,b]
   rcases h with h | h | h
   ·exact absurd h hs
   ·simp [h]
   ·simp [h]
  ·unfold iZ
   rw [b]
   simp only
   rw [au (fun hc=>j hc.2.1)]
theorem Gu {d:List Part} {at' k s n:Nat} {b:Part} (j:d[at'+k]?=some b) (h:b.stamp≠s∨b.i≠k∨b.of≠n∨b.ok=false):nV d at' s n k=false:=by
 unfold nV
 rw [j]
 simp only
 rcases h with h | h | h | h <;> simp [h]
theorem tp {rows:List (List UInt8)} (h:∀ b∈rows,b.length=64) {at' k:Nat} (hk:k≤300):(gE (rows.map parseSec) at' k).length≤100000:=by
 have key:∀ k,(gE (rows.map parseSec) at' k).length≤64*k:=by
  intro k
  induction k with
  | zero=>simp [gE]
  | succ k ih =>
   unfold gE at ih⊢
   rw [fy,eA,aq]
   have h1:([k].flatMap fun i=>((rows.map parseSec).getD (at'+i) default).data).length≤64:=by
    simp only [cP,List.flatMap_nil,cM,aN,bd]
    cases d:rows[at'+k]? with
    | none=>simp [default]
    | some b =>
     have:=h b (aV d)
     simp only [dX,bR]
     unfold parseSec
     simp only [az,bg]
     omega
   omega
 have:=key k
 omega
theorem vO {d:List Part} {at' k:Nat} {b:Part} {l:List UInt8} (h:d[at'+k]?=some b) (hl:b.data=l):gE d at' (k+1)=gE d at' k++l:=by
 unfold gE
 rw [fy,eA]
 congr 1
 simp [aN,h,hl]
theorem yr {w:World} {b off:Nat} {x z n:Int} {v:Value} {T:TypeId} {fz:Nat×Nat} (h:w.heap[b]?=some (.cells #[.int .u64 x,v,.int .i64 z] T fz)) (d:∀ n,v≠.int .u8 n) (hc:w.cell? ⟨b,off,none⟩=some (.int .u8 n)):False:=by
 have h1:=ae w b off _ _ _ h
 rw [hc] at h1
 match off with
 | 0=>simp at h1
 | 1=>simp at h1;exact d n h1.symm
 | 2=>simp at h1
 | k+3=>simp at h1
theorem yK (F:Nat→Prop) (rv:Value) (rows:List (List UInt8)) (at':Nat) (w:World) (j2:RowsAt w F rv rows) (h64:∀ b∈rows,b.length=64) (hlen:rows.length≤1000) (hZ:at'≤1000) :
  Calls Tryz.prog 199 #[rv,.int .i64 (at':Nat)] w fun e w'=>Below w.heap.size w w'∧∃ (st tt:Nat) (jp:Value) (data:List UInt8),e = .returned (.tuple #[.agg #[.int .u64 (st:Nat),jp,.int .i64 (tt:Nat)],.bool (iZ (rows.map parseSec) at').isSome])∧BytesAt w' jp data∧(∀ b,jp.ownBlock=some b→w.heap.size≤b∧b<w'.heap.size)∧
   ∀ x,iZ (rows.map parseSec) at'=some x→x=⟨st,data,tt⟩:=by
 obtain ⟨g,cap,rfl,e6,a1⟩:=j2.get
 obtain ⟨d,hd⟩:∃ d,d=rows.map parseSec:=⟨_,rfl⟩
 have f6:d.length=rows.length:=by rw [hd,aG]
 have HD:=ab hd
 have HR:=ab j2
 have HG:=ab a1
 have d5:=ab h64
 rw [←hd]
 clear hd j2 a1 h64 e6
 go_enter Tryz.func199,Tryz.ntmps199
 go_wp2
 have d6:Below w.heap.size w ((w.alloc (.cells #[.int .u64 0,.slice none 0 0,.int .i64 0] 316)).alloc (.cells #[.int .u64 0,.slice none 0 0,.int .i64 0] 316)):=((Below.refl _ w).alloc (af _) _).alloc (by simp) _
 have R0:=fX _ (.cells #[.int .u64 0,.slice none 0 0,.int .i64 0] 316) (fR w (.cells #[.int .u64 0,.slice none 0 0,.int .i64 0] 316))
 have R1:=fR (w.alloc (.cells #[.int .u64 0,.slice none 0 0,.int .i64 0] 316)) (.cells #[.int .u64 0,.slice none 0 0,.int .i64 0] 316)
 rw [aw] at R1
 have co:Hid (Im w d at' 0 1 ((w.alloc (.cells #[.int .u64 0,.slice none 0 0,.int .i64 0] 316)).alloc (.cells #[.int .u64 0,.slice none 0 0,.int .i64 0] 316))):=ab ⟨0,.slice none 0 0,R1,OwnS.nil _ _ _,CellsOf.nil _ _,d6,R0,.inl ⟨rfl,rfl⟩,.inl (by omega),by omega⟩
 clear d6 R0 R1
 go_loopw [7,8] (fun p i wr=>∃ k P:Nat,p = .int .i64 (P:Int)∧i = .int .i64 (k:Int)∧Im w d at' k P wr) (fun _ i _=>300-(intOf i).toNat)
 case atStart=>exact ⟨0,1,rfl,rfl,co.out⟩
 case round =>
  obtain ⟨k,P,rfl,rfl,st,jp,r1,r2,r3,r4,r5,r6,r7,r8⟩:=hrel
  have gc:=ab r1
  have be:=ab r2
  have ge:=ab r3
  have bv:=ab r4
  have gf:=ab r5
  have cp:=ab r6
  have e8:=r4.size
  have cq:=r4.size
  have h0:=fO r1
  have h2:=fO r5
  obtain ⟨l,m,rfl⟩:=r2.shape
  have t0:wr.cell? ⟨w.heap.size+1,0,none⟩=some (.int .u64 (st:Nat)):=ae _ _ 0 _ _ _ r1
  have t1:wr.cell? ⟨w.heap.size+1,1,none⟩=some (.slice l (gE d at' k).length m):=ae _ _ 1 _ _ _ r1
  have t2:wr.cell? ⟨w.heap.size+1,2,none⟩=some (.int .i64 0):=ae _ _ 2 _ _ _ r1
  have gg:=aj _ _ 1 _ _ r1
  have gl:=aj _ _ 2 _ _ r1
  have gn:=aj _ _ 0 _ _ r1
  have u0:wr.cell? ⟨w.heap.size,0,none⟩=some (.int .u64 0):=ae _ _ 0 _ _ _ r5
  have u1:wr.cell? ⟨w.heap.size,1,none⟩=some (.slice none 0 0):=ae _ _ 1 _ _ _ r5
  have u2:wr.cell? ⟨w.heap.size,2,none⟩=some (.int .i64 0):=ae _ _ 2 _ _ _ r5
  have go:=aj _ _ 0 _ _ r5
  have gp:=aj _ _ 1 _ _ r5
  have gq:=aj _ _ 2 _ _ r5
  clear r1 r2 r3 r4 r5 r6 co
  by_cases d7:k<P
  ·have g1:(k:Int)<P:=by omega
   by_cases gs:rows.length≤at'+k
   ·have g2:(rows.length:Int)≤(at':Int)+k:=by omega
    have d8:iZ d at'=none:=EX cp.out d7 (dm (by rw [f6];exact gs))
    have r:=ab d8
    clear d8
    go_wp2
    obtain ⟨D,I,Q⟩:=oL rfl bv.out be.out (.int .u64 (st:Nat)) (.slice l (gE d at' k).length m) (.int .i64 0)
    refine aI (v := .tuple #[.agg #[.int .u64 (st:Nat),.slice l (gE d at' k).length m,.int .i64 0],.bool false]) (by simp [results,Tryz.results199,go_sem,u0,u1,u2]) rfl ⟨D,st,0,_,_,by rw [r.out];rfl,I,Q,fun x s=>by rw [r.out] at s;cases s⟩
   ·obtain ⟨b,j0⟩:∃ b,rows[at'+k]?=some b:=⟨_,ay (by omega)⟩
    have bS:b.length=64:=d5.out b (aV j0)
    have gt:=(HR.out.gr e8 fun j C ty fz U _ _=>bv.out.block j (fO U)).get
    obtain ⟨g',cap',e',-,a1⟩:=gt
    obtain ⟨rfl,-,rfl⟩:=Value.slice.inj e'
    obtain ⟨g0,off,u,rfl,a0,bX⟩:=a1 _ _ j0
    have g2:(at':Int)+k<(rows.length:Int):=by omega
    have h3:¬(rows.length:Int)≤(at':Int)+k:=by omega
    have hD:((at':Int)+k).toNat=at'+k:=by omega
    obtain ⟨ua,uc,rfl,-,-⟩:=bX.1.opened
    have bt:=ab bX
    have HB:=ab j0
    have ds:=ab a0
    have h4:=fU a0
    clear a1 e' bX j0
    rw [bS] at a0
    obtain ⟨x,y,z,cr,d9⟩:=E1 bS
    have ea:d[at'+k]?=some (parseSec b):=by rw [HD.out,bd,HB.out];rfl
    have bi:=ab ea
    have M:=ab d9
    have e9:=ab cr
    have h5:=z.toNat_lt
    have h6:=x.toNat_lt
    have h7:=y.toNat_lt
    clear ea d9 cr
    obtain ⟨q,G,gv⟩:∃ q G,ua=some ⟨q,G,none⟩:=by
     obtain ⟨a',c',e',-,s⟩:=bt.out.1.opened
     obtain ⟨b',o',gz,-⟩:=s 0 (by omega)
     obtain ⟨rfl,-,rfl⟩:=Value.slice.inj e'
     exact ⟨b',o',gz⟩
    subst gv
    have eb:Hid (b.length≤uc∧∃ C fz,wr.heap[q]?=some (.cells C 5 fz)):=ab (by
     obtain ⟨a',c',e',g3,-⟩:=bt.out.1.opened
     obtain ⟨-,-,rfl⟩:=Value.slice.inj e'
     exact ⟨g3,bt.out.2.1 q rfl⟩)
    go_wp2_with fail
    have b7:=fR wr (.cells #[.slice (some ⟨q,G,none⟩) 64 uc,.int .i64 0,.int .i64 0,.pointer none] 254)
    have ec:Hid (Below wr.heap.size wr (wr.alloc (.cells #[.slice (some ⟨q,G,none⟩) 64 uc,.int .i64 0,.int .i64 0,.pointer none] 254))):=ab ((Below.refl _ wr).alloc (af _) _)
    have g4:Hid (nK (wr.alloc (.cells #[.slice (some ⟨q,G,none⟩) 64 uc,.int .i64 0,.int .i64 0,.pointer none] 254)) wr.heap.size q G uc 0 0 b):=ab (by
     refine ⟨by rw [bS];exact b7,bt.out.1.below ec.out,?_,eb.out.1,by omega⟩
     obtain ⟨C,fz,hC⟩:=eb.out.2
     have:=fO hC
     omega)
    refine (ER wr.heap.size q G uc 0 0 b _ g4.out (by omega)).mono ?_
    rintro e w5 ⟨rfl,cs,ed⟩
    have eg:iP ((b.drop 0).take 8)=(parseSec b).stamp:=rfl
    rw [eg]
    have g5:Hid (Ext (fun j=>j=wr.heap.size) wr w5):=ab ((Ext.fT ec.out).trans ed)
    have fb:=ab cs
    obtain ⟨S,j3⟩:∃ S,S=(parseSec b).stamp:=⟨_,rfl⟩
    rw [←j3]
    have HS:=ab j3
    clear cs ed eg b7 j3 a0
    go_wp2_with fail
    refine (zH wr.heap.size q G uc 0 8 3 b w5 fb.out (by omega) (by omega) (by omega)).mono ?_
    rintro e V ⟨rfl,b1,ej⟩
    have cu:=b1.part 8 (n:=3) (by omega)
    rw [e9.out] at cu
    have N:Hid (Ext (fun j=>j=wr.heap.size) wr V):=ab (g5.out.trans ej)
    have av:=ab b1
    obtain ⟨ha,hc,g6,g7,bw⟩:=cu.opened
    cases g6
    obtain ⟨h8,h9,e0,ag⟩:=bw 0 (by simp)
    obtain ⟨hJ,hL,D,b8⟩:=bw 1 (by simp)
    obtain ⟨hA,hB,I,bx⟩:=bw 2 (by simp)
    cases e0
    cases D
    cases I
    simp only [cj,ee,cz] at ag b8 bx
    have ii:=ab bw
    have el:=N.out.cell (p:=⟨w.heap.size+1,0,none⟩) (by show w.heap.size+1≠wr.heap.size;omega) t0
    have ca:=N.out.cell (p:=⟨w.heap.size+1,1,none⟩) (by show w.heap.size+1≠wr.heap.size;omega) t1
    have em:=N.out.cell (p:=⟨w.heap.size+1,2,none⟩) (by show w.heap.size+1≠wr.heap.size;omega) t2
    have X:=ab (N.out.at (by show w.heap.size+1≠wr.heap.size;omega) gc.out)
    have aE:=ab (N.out.at (by show w.heap.size≠wr.heap.size;omega) gf.out)
    have fd:=aj _ _ 0 _ _ X.out
    have fg:=aj _ _ 1 _ _ X.out
    have fi:=aj _ _ 2 _ _ X.out
    have bk:=N.out.cell (p:=⟨w.heap.size,0,none⟩) (by show w.heap.size≠wr.heap.size;omega) u0
    have bl:=N.out.cell (p:=⟨w.heap.size,1,none⟩) (by show w.heap.size≠wr.heap.size;omega) u1
    have bn:=N.out.cell (p:=⟨w.heap.size,2,none⟩) (by show w.heap.size≠wr.heap.size;omega) u2
    have fk:=aj _ _ 0 _ _ aE.out
    have fl:=aj _ _ 1 _ _ aE.out
    have fn:=aj _ _ 2 _ _ aE.out
    have g8:=N.out.size
    have a2:Hid (Below w.heap.size w V):=ab (bv.out.trans (N.out.below (aH cq (af _)) fun j U e=>by have e':j=wr.heap.size:=e;omega))
    have W:Hid (OwnS V (w.heap.size+2) 1 (.slice l (gE d at' k).length m) (gE d at' k).length (u8s (gE d at' k))):=ab (be.out.frame N.out.size fun j e U=>N.out.block j U (by show j≠wr.heap.size;omega))
    have en:Hid (CellsOf V (.slice l (gE d at' k).length m) 5):=ab (ge.out.frame fun j e U=>N.out.block j U (by show j≠wr.heap.size;omega))
    have er:Hid (q<w.heap.size):=ab (by
     obtain ⟨io,ip,g9,-,dv⟩:=HR.out.get
     obtain ⟨hb,-,-⟩:=Value.slice.inj g9
     obtain ⟨i0,i1,u',eC,eD,hf⟩:=dv _ _ HB.out
     rw [←hb] at eC
     cases eC
     have eS:=(bv.out.cell (p:=⟨g0,off+(at'+k),none⟩) (fU eD)).trans eD
     rw [ds.out] at eS
     cases eS
     obtain ⟨C,fz,hC⟩:=hf.2.1 q rfl
     exact fO hC)
    have eT:Hid ((gE d at' k).length≤100000):=ab (by rw [HD.out];exact tp d5.out (by omega))
    have i2:q<V.heap.size:=fU ag
    have hM:q≠w.heap.size:=fun e=>by rw [e] at ag;exact yr aE.out (fun n e=>by cases e) ag
    have hN:q≠w.heap.size+1:=fun e=>by rw [e] at ag;exact yr X.out (fun n e=>by cases e) ag
    clear t0 t1 t2 gn gg gl u0 u1 u2 go gp gq cu bw b1 ej g7
    rcases cp.out with ⟨cv,eV⟩ | ⟨hg,b0,q0,q1,q2,q3,q4⟩
    ·have d3:((k:Int)==0)=true:=by simp;omega
     have fo:(k:Int)=0:=by omega
     have c0:=ab cv
     have hO:=ab eV
     have cb:Hid (d[at']?=some (parseSec b)):=ab (by have h1:=bi.out;rw [cv,cz] at h1;exact h1)
     clear cv eV fo
     have i3:(y.toNat:Int)<256:=by omega
     have i4:IntKind.i64.wrap (y.toNat:Int)=(y.toNat:Int):=IntWalk.i64_in _ (by omega)
     go_wp2
     go_region
     obtain ⟨J,bo⟩:∃ J,J=(V.setCell ⟨w.heap.size+1,0,none⟩ (.int .u64 (S:Nat))).drew:=⟨_,rfl⟩
     have E:∀ j,j≠w.heap.size+1→J.heap[j]?=V.heap[j]?:=fun j U=>by rw [bo];exact Below.heap_setCell V ⟨w.heap.size+1,0,none⟩ _ j U
     have hh:V.heap.size≤J.heap.size:=by rw [bo];show V.heap.size≤(V.setCell ⟨w.heap.size+1,0,none⟩ (.int .u64 (S:Nat))).heap.size;rw [size_setCell];exact af _
     have Y:Hid (J.heap[w.heap.size+1]?=some (.cells #[.int .u64 (S:Nat),.slice l (gE d at' k).length m,.int .i64 0] 316 (0,0))):=ab (by rw [bo];exact heap_setCell _ _ 0 _ X.out)
     have Z:=ab ((E w.heap.size (by omega)).trans aE.out)
     have fp:Hid (nK J wr.heap.size q G uc 8 11 b):=ab ⟨(E _ (by omega)).trans av.out.row,fW.frame av.out.bytes (fun j e _=>E j (by cases e;omega)),av.out.ne,av.out.cap,av.out.len⟩
     have bz:Hid (OwnS J (w.heap.size+2) 1 (.slice l (gE d at' k).length m) (gE d at' k).length (u8s (gE d at' k))):=ab (W.out.frame hh fun j e _=>E j (by have:=W.out.gh j e;omega))
     have hi:Hid (CellsOf J (.slice l (gE d at' k).length m) 5):=ab (en.out.frame fun j e _=>E j (by have:=W.out.gh j e;omega))
     have ce:Hid (Below w.heap.size w J):=ab (by rw [bo];exact (a2.out.setCell (p:=⟨w.heap.size+1,0,none⟩) (by simp) _).drew)
     rw [←bo]
     have hj:J.cell? ⟨w.heap.size+1,0,none⟩=some (.int .u64 (S:Nat)):=ae _ _ 0 _ _ _ Y.out
     have c1:J.cell? ⟨w.heap.size+1,1,none⟩=some (.slice l (gE d at' k).length m):=ae _ _ 1 _ _ _ Y.out
     have hk:J.cell? ⟨w.heap.size+1,2,none⟩=some (.int .i64 0):=ae _ _ 2 _ _ _ Y.out
     have c2:J.cell? ⟨w.heap.size,0,none⟩=some (.int .u64 0):=ae _ _ 0 _ _ _ Z.out
     have c3:J.cell? ⟨w.heap.size,1,none⟩=some (.slice none 0 0):=ae _ _ 1 _ _ _ Z.out
     have c4:J.cell? ⟨w.heap.size,2,none⟩=some (.int .i64 0):=ae _ _ 2 _ _ _ Z.out
     have hP:=aj _ _ 0 _ _ Z.out
     have hQ:=aj _ _ 1 _ _ Z.out
     have hR:=aj _ _ 2 _ _ Z.out
     have hS:=aj _ _ 1 _ _ Y.out
     have kd:J.cell? ⟨q,G+8,none⟩=some (.int .u8 (x.toNat:Int)):=(aU (w:=V) (E q (by omega))).trans ag
     have hn:J.cell? ⟨q,G+8+1,none⟩=some (.int .u8 (y.toNat:Int)):=(aU (w:=V) (E q (by omega))).trans b8
     have kf:J.cell? ⟨q,G+8+2,none⟩=some (.int .u8 (z.toNat:Int)):=(aU (w:=V) (E q (by omega))).trans bx
     have hT:=fO Y.out
     have hU:q<J.heap.size:=fU kd
     have fr:wr.heap.size≤J.heap.size:=by omega
     clear bo E el ca em fd fg fi bk bl bn fk fl fn ag b8 bx
     by_cases bD:S=0
     ·have b2:((S:Int)==0)=true:=by simp;omega
      have hp:=ab bD
      clear bD
      have r:Hid (iZ d at'=none):=ab (pM cb.out (.inl (by rw [←HS.out,hp.out])))
      go_wp2
      obtain ⟨D,I,Q⟩:=oL rfl ce.out bz.out (.int .u64 (S:Nat)) (.slice l (gE d at' k).length m) (.int .i64 0)
      refine aI (v := .tuple #[.agg #[.int .u64 (S:Nat),.slice l (gE d at' k).length m,.int .i64 0],.bool false]) (by simp [results,Tryz.results199,go_sem,c2,c3,c4]) rfl ⟨D,S,0,_,_,by rw [r.out];rfl,I,Q,fun x s=>by rw [r.out] at s;cases s⟩
     ·have b2:((S:Int)==0)=false:=by simp;omega
      by_cases a3:x.toNat=k
      ·have b3:((x.toNat:Int) != (k:Int))=false:=by simp;omega
       have c5:=ab a3
       clear a3
       by_cases hr:z.toNat≤53
       ·have b4:¬(53:Int)<(z.toNat:Int):=by omega
        have fv:q<w.heap.size:=er.out
        have a4:Hid (∀ j,(Value.slice l (gE d at' k).length m).ownBlock=some j→w.heap.size+2≤j):=ab bz.out.gh
        have a5:Hid (∀ j,(Value.slice l (gE d at' k).length m).ownBlock=some j→j<wr.heap.size):=ab be.out.gP
        have hs:IntKind.i64.wrap (z.toNat:Int)=(z.toNat:Int):=IntWalk.i64_in _ (by omega)
        have a6:=kf
        go_wp2
        trace_state
        refine iB (n:=10) (S:=(fun w'=>w'.cell? ⟨w.heap.size+1,1,none⟩=some (.slice l (gE d at' k).length m)∧w'.cell? ⟨q,G+8+2,none⟩=some (.int .u8 (z.toNat:Int)))) (by kernel_rfl) (by kernel_rfl) rfl (by first | exact ⟨c1,a6⟩ | exact ⟨ak,al⟩) ?_
        intro fB
        simp only [cI,cc,cy,cJ,bA,cd,bf,bu,bT,aO,aX]
        refine wpAnyH_take (i:=0) (v := ?_) rfl (by kernel_rfl) (by kernel_rfl) (by kernel_rfl) (fun _ _ _ h=>h) (Or.inl ⟨by rfl,?_⟩) (by assumption) ?_
        rotate_left 1
        ·(intro w o;(try dsimp only at o);go_simp;(try with_reducible rfl))
        try simp only [Act.put,ah,ai]
        refine wpAnyH_take (i:=1) (v := ?_) rfl (by kernel_rfl) (by kernel_rfl) (by kernel_rfl) (fun _ _ _ h=>h) (Or.inl ⟨by rfl,?_⟩) (by assumption) ?_
        rotate_left 1
        ·(intro w o;(try dsimp only at o);go_simp;(try with_reducible rfl))
        try simp only [Act.put,ah,ai,ao]
        refine wpAnyH_take (i:=2) (v := ?_) rfl (by kernel_rfl) (by kernel_rfl) (by kernel_rfl) (fun _ _ _ h=>h) (Or.inl ⟨by rfl,?_⟩) (by assumption) ?_
        rotate_left 1
        ·(intro w o;(try dsimp only at o);go_simp;(try with_reducible rfl))
        try simp only [Act.put,ah,ai,ao]
        refine wpAnyH_take (i:=3) (v := ?_) rfl (by kernel_rfl) (by kernel_rfl) (by kernel_rfl) (fun _ _ _ h=>h) (Or.inl ⟨by rfl,?_⟩) (by assumption) ?_
        rotate_left 1
        ·(intro w o;(try dsimp only at o);go_simp;(try with_reducible rfl))
        try simp only [Act.put,ah,ai,ao]
        refine wpAnyH_take (i:=4) (v := ?_) rfl (by kernel_rfl) (by kernel_rfl) (by kernel_rfl) (fun _ _ _ h=>h) (Or.inl ⟨by rfl,?_⟩) (by assumption) ?_
        rotate_left 1
        ·(intro w o;(try dsimp only at o);go_simp;(try with_reducible rfl))
        try simp only [Act.put,ah,ai,ao]
        refine wpAnyH_take (i:=5) (v := ?_) rfl (by kernel_rfl) (by kernel_rfl) (by kernel_rfl) (fun _ _ _ h=>h) (Or.inl ⟨by rfl,?_⟩) (by assumption) ?_
        rotate_left 1
        ·(intro w o;(try dsimp only at o);go_simp;(try with_reducible rfl))
        try simp only [Act.put,ah,ai,ao]
        refine wpAnyH_take (i:=6) (v := ?_) rfl (by kernel_rfl) (by kernel_rfl) (by kernel_rfl) (fun _ _ _ h=>h) (Or.inl ⟨by rfl,?_⟩) (by assumption) ?_
        rotate_left 1
        ·(intro w o;(try dsimp only at o);go_simp;(try with_reducible rfl))
        try simp only [Act.put,ah,ai,ao]
        refine wpAnyH_ready (rs:=[7]) (by kernel_rfl) (by simp) ?_
        refine AllReadyH.cons rfl ?_ AllReadyH.nil
        intro K' hK'
        go_simp;go_at_call 157;refine (BB wr.heap.size q G uc 8 11 z.toNat b _ fp.out.drew (by omega) (by omega)).mono ?_;rintro e w7 ⟨⟨pv,rfl,bH⟩,b6,O⟩;have B:Hid (Ext (fun j=>j=wr.heap.size) J w7):=ab ⟨O.os,O.tape,O.output,O.size,O.block⟩;have ak:w7.cell? ⟨w.heap.size+1,1,none⟩=some (.slice l (gE d at' k).length m):=B.out.cell (p:=⟨w.heap.size+1,1,none⟩) (by show w.heap.size+1≠wr.heap.size;omega) c1;have al:w7.cell? ⟨q,G+8+2,none⟩=some (.int .u8 (z.toNat:Int)):=B.out.cell (p:=⟨q,G+8+2,none⟩) (by show q≠wr.heap.size;omega) a6;have c6:=ab bH;clear b6 O bH;refine hK'.out _ _ ⟨ak,al⟩ ?_
        clear hK' K'
        intro f0
        try simp only [ah,ai,ao]
        refine wpAnyH_ready (rs:=[8]) (by kernel_rfl) (by simp) ?_
        refine AllReadyH.cons rfl ?_ AllReadyH.nil
        intro K' hK'
        refine lB rfl (.tmp 77) (.tmp 83) rfl (w.heap.size+2) (.slice l (gE d at' k).length m) (gE d at' k).length (gE d at' k) rfl (by exact bz.out.frame B.out.size fun j e U=>B.out.block j U (by show j≠wr.heap.size;have:=a5.out j e;omega)) (by exact hi.out.frame fun j e U=>B.out.block j U (by show j≠wr.heap.size;have:=a5.out j e;omega)) ((b.drop 11).take z.toNat) (by exact c6.out) (by have:=eT.out;rw [az];omega) (by have:=B.out.size;omega) ?_;intro v8 w8 R am a9 bI;obtain ⟨bL,bM,rfl⟩:=R.shape;have bN:=ab bI;have bO:=ab R;have c7:=ab a9;have c8:=ab am;have f1:=B.out.size;have ba:w8.cell? ⟨w.heap.size+1,1,none⟩=some (.slice l (gE d at' k).length m):=(aU (w:=w7) (am.block (w.heap.size+1) (by omega) (fun e=>by have:=a4.out _ e.symm;omega))).trans ak;have bP:w8.cell? ⟨q,G+8+2,none⟩=some (.int .u8 (z.toNat:Int)):=(aU (w:=w7) (am.block q (by omega) (fun e=>by have:=a4.out _ e.symm;omega))).trans al;clear R am a9 bI;refine hK'.out _ _ ⟨ba,bP⟩ ?_
        clear hK' K'
        intro f2
        try simp only [Act.put,ah,ai,ao]
        refine wpAnyH_take (i:=9) (v := ?_) rfl (by kernel_rfl) (by kernel_rfl) (by kernel_rfl) (fun _ _ _ h=>h) (Or.inl ⟨by rfl,?_⟩) (by assumption) ?_
        rotate_left 1
        ·(intro w o;(try dsimp only at o);go_simp;(try with_reducible rfl))
        try simp only [Act.put,ah,ai,ao]
        refine wpAnyH_done (by kernel_rfl) ?_ _
        show Oper.wp _ _ _ _ _ _
        have D:=ba
        have c9:=aj _ _ 1 _ _ Y.out
        have aa:Hid (w8.heap[w.heap.size+1]?=some (.cells #[.int .u64 (S:Nat),.slice l (gE d at' k).length m,.int .i64 0] 316 (0,0))):=ab ((c8.out.block (w.heap.size+1) (by omega) (fun e=>by have:=a4.out _ e.symm;omega)).trans (B.out.at (by show w.heap.size+1≠wr.heap.size;omega) Y.out))
        have ht:=aj _ _ 1 _ _ aa.out
        have hu:=fO aa.out
        have da:Hid (∀ j,(Value.slice bL _ bM).ownBlock=some j→w.heap.size+2≤j):=ab bO.out.gh
        clear c9 ak al bP ba hj c1 hk kd hn kf a6
        go_wp2
        have ap:((b.drop 11).take z.toNat).length=z.toNat:=by rw [az,bg];omega
        have dc:gE d at' (k+1)=gE d at' k++(b.drop 11).take z.toNat:=vO bi.out (by rw [M.out])
        refine ⟨⟨k+1,y.toNat,rfl,by go_num,S,.slice bL ((gE d at' k).length+z.toNat) bM,heap_setCell _ _ 1 _ aa.out,?_,?_,?_,?_,.inr ⟨by omega,parseSec b,cb.out,by rw [M.out],HS.out,bD,fun i kb => ?_⟩,.inr (by have:=c0.out;omega),by omega⟩,by simp [intOf];omega⟩
        ·rw [dc,aq,ap]
         have h1:=bO.out
         rw [ap] at h1
         exact h1.frame (by rw [size_setCell];exact af _) fun j e _=>Below.heap_setCell w8 ⟨w.heap.size+1,1,none⟩ _ j (by show j≠w.heap.size+1;have:=h1.gh j e;omega)
        ·have h1:=c7.out
         rw [ap] at h1
         exact h1.frame fun j e _=>Below.heap_setCell w8 ⟨w.heap.size+1,1,none⟩ _ j (by show j≠w.heap.size+1;have:=da.out j (by rw [ap];exact e);omega)
        ·exact ((ce.out.trans (B.out.below (aH cq fr) fun j U e=>by have e':j=wr.heap.size:=e;omega)).trans (bN.out.mono (by omega))).setCell (p:=⟨w.heap.size+1,1,none⟩) (by simp) _
        ·exact (Below.heap_setCell w8 ⟨w.heap.size+1,1,none⟩ _ w.heap.size (by show w.heap.size≠w.heap.size+1;omega)).trans ((bN.out.block _ (by omega)).trans (B.out.at (by show w.heap.size≠wr.heap.size;omega) Z.out))
        ·obtain rfl:i=k:=by have:=c0.out;omega
         exact nW.2 ⟨_,bi.out,rfl,by rw [M.out];exact c5.out,rfl,by rw [M.out];simp;omega⟩
       ·have b4:(53:Int)<(z.toNat:Int):=by omega
        have r:Hid (iZ d at'=none):=ab (pM cb.out (.inr (.inr (by rw [M.out];simp;omega))))
        go_wp2
        obtain ⟨D,I,Q⟩:=oL rfl ce.out bz.out (.int .u64 (S:Nat)) (.slice l (gE d at' k).length m) (.int .i64 0)
        refine aI (v := .tuple #[.agg #[.int .u64 (S:Nat),.slice l (gE d at' k).length m,.int .i64 0],.bool false]) (by simp [results,Tryz.results199,go_sem,c2,c3,c4]) rfl ⟨D,S,0,_,_,by rw [r.out];rfl,I,Q,fun x s=>by rw [r.out] at s;cases s⟩
      ·have b3:((x.toNat:Int) != (k:Int))=true:=by simp;omega
       have r:Hid (iZ d at'=none):=ab (pM cb.out (.inr (.inl (by rw [M.out];show x.toNat≠0;rw [←c0.out];exact a3))))
       go_wp2
       obtain ⟨D,I,Q⟩:=oL rfl ce.out bz.out (.int .u64 (S:Nat)) (.slice l (gE d at' k).length m) (.int .i64 0)
       refine aI (v := .tuple #[.agg #[.int .u64 (S:Nat),.slice l (gE d at' k).length m,.int .i64 0],.bool false]) (by simp [results,Tryz.results199,go_sem,c2,c3,c4]) rfl ⟨D,S,0,_,_,by rw [r.out];rfl,I,Q,fun x s=>by rw [r.out] at s;cases s⟩
    ·have e1:=ab q0
     have ci:=ab q1
     have cl:=ab q2
     have hv:=ab q4
     have hX:¬k=0:=by omega
     have d3:((k:Int)==0)=false:=by simp;omega
     have bb:Hid (((parseSec b).stamp≠b0.stamp∨(parseSec b).i≠k∨(parseSec b).of≠b0.of∨(parseSec b).ok=false)→iZ d at'=none):=ab fun h=>qB e1.out (by rw [←ci.out];exact d7) (Gu bi.out h)
     clear q0 q1 q2 q4
     by_cases bD:S=0
     ·have b2:((S:Int)==0)=true:=by simp;omega
      have r:Hid (iZ d at'=none):=ab (bb.out (.inl (by rw [←HS.out,←cl.out,bD];exact dx q3)))
      go_wp2
      obtain ⟨D,I,Q⟩:=oL rfl a2.out W.out (.int .u64 (st:Nat)) (.slice l (gE d at' k).length m) (.int .i64 0)
      refine aI (v := .tuple #[.agg #[.int .u64 (st:Nat),.slice l (gE d at' k).length m,.int .i64 0],.bool false]) (by simp [results,Tryz.results199,go_sem,bk,bl,bn]) rfl ⟨D,st,0,_,_,by rw [r.out];rfl,I,Q,fun x s=>by rw [r.out] at s;cases s⟩
     ·have b2:((S:Int)==0)=false:=by simp;omega
      by_cases e2:S=st
      ·obtain rfl:=e2
       by_cases a3:x.toNat=k
       ·have b3:((x.toNat:Int) != (k:Int))=false:=by simp;omega
        have c5:=ab a3
        clear a3
        by_cases dk:y.toNat=P
        ·have f4:((y.toNat:Int) != (P:Int))=false:=by simp;omega
         have hw:=ab dk
         clear dk
         by_cases hr:z.toNat≤53
         ·have b4:¬(53:Int)<(z.toNat:Int):=by omega
          have fv:q<w.heap.size:=er.out
          have a4:Hid (∀ j,(Value.slice l (gE d at' k).length m).ownBlock=some j→w.heap.size+2≤j):=ab W.out.gh
          have a5:Hid (∀ j,(Value.slice l (gE d at' k).length m).ownBlock=some j→j<wr.heap.size):=ab be.out.gP
          have hs:IntKind.i64.wrap (z.toNat:Int)=(z.toNat:Int):=IntWalk.i64_in _ (by omega)
          have a6:V.cell? ⟨q,G+8+2,none⟩=some (.int .u8 (z.toNat:Int)):=bx
          go_wp2
          trace_state
          refine iB (n:=10) (S:=(fun w'=>w'.cell? ⟨w.heap.size+1,1,none⟩=some (.slice l (gE d at' k).length m)∧w'.cell? ⟨q,G+8+2,none⟩=some (.int .u8 (z.toNat:Int)))) (by kernel_rfl) (by kernel_rfl) rfl (by first | exact ⟨ca,a6⟩ | exact ⟨ak,al⟩) ?_
          intro fB
          simp only [cI,cc,cy,cJ,bA,cd,bf,bu,bT,aO,aX]
          refine wpAnyH_take (i:=0) (v := ?_) rfl (by kernel_rfl) (by kernel_rfl) (by kernel_rfl) (fun _ _ _ h=>h) (Or.inl ⟨by rfl,?_⟩) (by assumption) ?_
          rotate_left 1
          ·(intro w o;(try dsimp only at o);go_simp;(try with_reducible rfl))
          try simp only [Act.put,ah,ai]
          refine wpAnyH_take (i:=1) (v := ?_) rfl (by kernel_rfl) (by kernel_rfl) (by kernel_rfl) (fun _ _ _ h=>h) (Or.inl ⟨by rfl,?_⟩) (by assumption) ?_
          rotate_left 1
          ·(intro w o;(try dsimp only at o);go_simp;(try with_reducible rfl))
          try simp only [Act.put,ah,ai,ao]
          refine wpAnyH_take (i:=2) (v := ?_) rfl (by kernel_rfl) (by kernel_rfl) (by kernel_rfl) (fun _ _ _ h=>h) (Or.inl ⟨by rfl,?_⟩) (by assumption) ?_
          rotate_left 1
          ·(intro w o;(try dsimp only at o);go_simp;(try with_reducible rfl))
          try simp only [Act.put,ah,ai,ao]
          refine wpAnyH_take (i:=3) (v := ?_) rfl (by kernel_rfl) (by kernel_rfl) (by kernel_rfl) (fun _ _ _ h=>h) (Or.inl ⟨by rfl,?_⟩) (by assumption) ?_
          rotate_left 1
          ·(intro w o;(try dsimp only at o);go_simp;(try with_reducible rfl))
          try simp only [Act.put,ah,ai,ao]
          refine wpAnyH_take (i:=4) (v := ?_) rfl (by kernel_rfl) (by kernel_rfl) (by kernel_rfl) (fun _ _ _ h=>h) (Or.inl ⟨by rfl,?_⟩) (by assumption) ?_
          rotate_left 1
          ·(intro w o;(try dsimp only at o);go_simp;(try with_reducible rfl))
          try simp only [Act.put,ah,ai,ao]
          refine wpAnyH_take (i:=5) (v := ?_) rfl (by kernel_rfl) (by kernel_rfl) (by kernel_rfl) (fun _ _ _ h=>h) (Or.inl ⟨by rfl,?_⟩) (by assumption) ?_
          rotate_left 1
          ·(intro w o;(try dsimp only at o);go_simp;(try with_reducible rfl))
          try simp only [Act.put,ah,ai,ao]
          refine wpAnyH_take (i:=6) (v := ?_) rfl (by kernel_rfl) (by kernel_rfl) (by kernel_rfl) (fun _ _ _ h=>h) (Or.inl ⟨by rfl,?_⟩) (by assumption) ?_
          rotate_left 1
          ·(intro w o;(try dsimp only at o);go_simp;(try with_reducible rfl))
          try simp only [Act.put,ah,ai,ao]
          refine wpAnyH_ready (rs:=[7]) (by kernel_rfl) (by simp) ?_
          refine AllReadyH.cons rfl ?_ AllReadyH.nil
          intro K' hK'
          go_simp;go_at_call 157;refine (BB wr.heap.size q G uc 8 11 z.toNat b _ av.out.drew (by omega) (by omega)).mono ?_;rintro e w7 ⟨⟨pv,rfl,bH⟩,b6,O⟩;have B:Hid (Ext (fun j=>j=wr.heap.size) V w7):=ab ⟨O.os,O.tape,O.output,O.size,O.block⟩;have ak:w7.cell? ⟨w.heap.size+1,1,none⟩=some (.slice l (gE d at' k).length m):=B.out.cell (p:=⟨w.heap.size+1,1,none⟩) (by show w.heap.size+1≠wr.heap.size;omega) ca;have al:w7.cell? ⟨q,G+8+2,none⟩=some (.int .u8 (z.toNat:Int)):=B.out.cell (p:=⟨q,G+8+2,none⟩) (by show q≠wr.heap.size;omega) a6;have c6:=ab bH;clear b6 O bH;refine hK'.out _ _ ⟨ak,al⟩ ?_
          clear hK' K'
          intro f0
          try simp only [ah,ai,ao]
          refine wpAnyH_ready (rs:=[8]) (by kernel_rfl) (by simp) ?_
          refine AllReadyH.cons rfl ?_ AllReadyH.nil
          intro K' hK'
          refine lB rfl (.tmp 77) (.tmp 83) rfl (w.heap.size+2) (.slice l (gE d at' k).length m) (gE d at' k).length (gE d at' k) rfl (by exact W.out.frame B.out.size fun j e U=>B.out.block j U (by show j≠wr.heap.size;have:=a5.out j e;omega)) (by exact en.out.frame fun j e U=>B.out.block j U (by show j≠wr.heap.size;have:=a5.out j e;omega)) ((b.drop 11).take z.toNat) (by exact c6.out) (by have:=eT.out;rw [az];omega) (by have:=B.out.size;omega) ?_;intro v8 w8 R am a9 bI;obtain ⟨bL,bM,rfl⟩:=R.shape;have bN:=ab bI;have bO:=ab R;have c7:=ab a9;have c8:=ab am;have f1:=B.out.size;have ba:w8.cell? ⟨w.heap.size+1,1,none⟩=some (.slice l (gE d at' k).length m):=(aU (w:=w7) (am.block (w.heap.size+1) (by omega) (fun e=>by have:=a4.out _ e.symm;omega))).trans ak;have bP:w8.cell? ⟨q,G+8+2,none⟩=some (.int .u8 (z.toNat:Int)):=(aU (w:=w7) (am.block q (by omega) (fun e=>by have:=a4.out _ e.symm;omega))).trans al;clear R am a9 bI;refine hK'.out _ _ ⟨ba,bP⟩ ?_
          clear hK' K'
          intro f2
          try simp only [Act.put,ah,ai,ao]
          refine wpAnyH_take (i:=9) (v := ?_) rfl (by kernel_rfl) (by kernel_rfl) (by kernel_rfl) (fun _ _ _ h=>h) (Or.inl ⟨by rfl,?_⟩) (by assumption) ?_
          rotate_left 1
          ·(intro w o;(try dsimp only at o);go_simp;(try with_reducible rfl))
          try simp only [Act.put,ah,ai,ao]
          refine wpAnyH_done (by kernel_rfl) ?_ _
          show Oper.wp _ _ _ _ _ _
          have D:=ba
          have c9:=aj _ _ 1 _ _ X.out
          have aa:Hid (w8.heap[w.heap.size+1]?=some (.cells #[.int .u64 (S:Nat),.slice l (gE d at' k).length m,.int .i64 0] 316 (0,0))):=ab ((c8.out.block (w.heap.size+1) (by omega) (fun e=>by have:=a4.out _ e.symm;omega)).trans (B.out.at (by show w.heap.size+1≠wr.heap.size;omega) X.out))
          have ht:=aj _ _ 1 _ _ aa.out
          have hu:=fO aa.out
          have da:Hid (∀ j,(Value.slice bL _ bM).ownBlock=some j→w.heap.size+2≤j):=ab bO.out.gh
          clear c9 ak al bP ba el ca em ag b8 bx a6
          go_wp2
          have ap:((b.drop 11).take z.toNat).length=z.toNat:=by rw [az,bg];omega
          have dc:gE d at' (k+1)=gE d at' k++(b.drop 11).take z.toNat:=vO bi.out (by rw [M.out])
          refine ⟨⟨k+1,P,rfl,by go_num,S,.slice bL ((gE d at' k).length+z.toNat) bM,heap_setCell _ _ 1 _ aa.out,?_,?_,?_,?_,.inr ⟨by omega,b0,e1.out,ci.out,cl.out,q3,fun i kb => ?_⟩,.inl (by omega),r8⟩,by simp [intOf];omega⟩
          ·rw [dc,aq,ap]
           have h1:=bO.out
           rw [ap] at h1
           exact h1.frame (by rw [size_setCell];exact af _) fun j e _=>Below.heap_setCell w8 ⟨w.heap.size+1,1,none⟩ _ j (by show j≠w.heap.size+1;have:=h1.gh j e;omega)
          ·have h1:=c7.out
           rw [ap] at h1
           exact h1.frame fun j e _=>Below.heap_setCell w8 ⟨w.heap.size+1,1,none⟩ _ j (by show j≠w.heap.size+1;have:=da.out j (by rw [ap];exact e);omega)
          ·exact ((a2.out.trans (B.out.below (aH cq g8) fun j U e=>by have e':j=wr.heap.size:=e;omega)).trans (bN.out.mono (by omega))).setCell (p:=⟨w.heap.size+1,1,none⟩) (by simp) _
          ·exact (Below.heap_setCell w8 ⟨w.heap.size+1,1,none⟩ _ w.heap.size (by show w.heap.size≠w.heap.size+1;omega)).trans ((bN.out.block _ (by omega)).trans (B.out.at (by show w.heap.size≠wr.heap.size;omega) aE.out))
          ·by_cases hx:i<k
           ·exact hv.out i hx
           ·obtain rfl:i=k:=by omega
            exact nW.2 ⟨_,bi.out,by rw [←HS.out];exact cl.out,by rw [M.out];exact c5.out,by rw [M.out,←ci.out];exact hw.out,by rw [M.out];simp;omega⟩
         ·have b4:(53:Int)<(z.toNat:Int):=by omega
          have r:Hid (iZ d at'=none):=ab (bb.out (.inr (.inr (.inr (by rw [M.out];simp;omega)))))
          go_wp2
          obtain ⟨D,I,Q⟩:=oL rfl a2.out W.out (.int .u64 (S:Nat)) (.slice l (gE d at' k).length m) (.int .i64 0)
          refine aI (v := .tuple #[.agg #[.int .u64 (S:Nat),.slice l (gE d at' k).length m,.int .i64 0],.bool false]) (by simp [results,Tryz.results199,go_sem,bk,bl,bn]) rfl ⟨D,S,0,_,_,by rw [r.out];rfl,I,Q,fun x s=>by rw [r.out] at s;cases s⟩
        ·have f4:((y.toNat:Int) != (P:Int))=true:=by simp;omega
         have r:Hid (iZ d at'=none):=ab (bb.out (.inr (.inr (.inl (by rw [M.out,←ci.out];exact dk)))))
         go_wp2
         obtain ⟨D,I,Q⟩:=oL rfl a2.out W.out (.int .u64 (S:Nat)) (.slice l (gE d at' k).length m) (.int .i64 0)
         refine aI (v := .tuple #[.agg #[.int .u64 (S:Nat),.slice l (gE d at' k).length m,.int .i64 0],.bool false]) (by simp [results,Tryz.results199,go_sem,bk,bl,bn]) rfl ⟨D,S,0,_,_,by rw [r.out];rfl,I,Q,fun x s=>by rw [r.out] at s;cases s⟩
       ·have b3:((x.toNat:Int) != (k:Int))=true:=by simp;omega
        have r:Hid (iZ d at'=none):=ab (bb.out (.inr (.inl (by rw [M.out];exact a3))))
        go_wp2
        obtain ⟨D,I,Q⟩:=oL rfl a2.out W.out (.int .u64 (S:Nat)) (.slice l (gE d at' k).length m) (.int .i64 0)
        refine aI (v := .tuple #[.agg #[.int .u64 (S:Nat),.slice l (gE d at' k).length m,.int .i64 0],.bool false]) (by simp [results,Tryz.results199,go_sem,bk,bl,bn]) rfl ⟨D,S,0,_,_,by rw [r.out];rfl,I,Q,fun x s=>by rw [r.out] at s;cases s⟩
      ·have hY:((S:Int) != (st:Int))=true:=by simp;omega
       have r:Hid (iZ d at'=none):=ab (bb.out (.inl (by rw [←HS.out,←cl.out];exact e2)))
       go_wp2
       obtain ⟨D,I,Q⟩:=oL rfl a2.out W.out (.int .u64 (st:Nat)) (.slice l (gE d at' k).length m) (.int .i64 0)
       refine aI (v := .tuple #[.agg #[.int .u64 (st:Nat),.slice l (gE d at' k).length m,.int .i64 0],.bool false]) (by simp [results,Tryz.results199,go_sem,bk,bl,bn]) rfl ⟨D,st,0,_,_,by rw [r.out];rfl,I,Q,fun x s=>by rw [r.out] at s;cases s⟩
  ·have g1:¬(k:Int)<P:=by omega
   have e3:Hid (iZ d at'=if 0<P then some ⟨st,gE d at' k,at'+P⟩ else none):=ab (by
    rcases cp.out with ⟨D,I⟩ | ⟨hg,b0,q0,q1,q2,q3,q4⟩
    ·omega
    ·split
     ·rename_i j1
      have hy:k=P:=by omega
      rw [hy] at q4⊢
      exact jk.2 ⟨P,j1,q3,rfl,rfl,fun i kb=>by rw [q1,q2];exact nW.1 (q4 i kb)⟩
     ·unfold iZ
      rw [q0]
      simp only
      rw [au (fun hc=>by omega)])
   have e4:decide ((0:Int)<(P:Int))=decide (0<P):=by simp
   have i5:=ab e4
   clear e4
   go_wp2
   have hz:OwnS (wr.setCell ⟨w.heap.size+1,2,none⟩ (.int .i64 ((at':Int)+(P:Int)))) (w.heap.size+2) 1 (.slice l (gE d at' k).length m) (gE d at' k).length (u8s (gE d at' k)) :=
    be.out.frame (by rw [size_setCell];exact af _) fun j e _=>Below.heap_setCell wr ⟨w.heap.size+1,2,none⟩ _ j (by show j≠w.heap.size+1;have:=be.out.gh j e;omega)
   obtain ⟨D,I,Q⟩:=oL rfl (bv.out.setCell (p:=⟨w.heap.size+1,2,none⟩) (by simp) (.int .i64 ((at':Int)+(P:Int)))) hz (.int .u64 (st:Nat)) (.slice l (gE d at' k).length m) (.int .i64 ((at':Int)+(P:Int)))
   refine aI (v := .tuple #[.agg #[.int .u64 (st:Nat),.slice l (gE d at' k).length m,.int .i64 ((at':Int)+(P:Int))],.bool (decide (0<P))]) (by simp [results,Tryz.results199,go_sem,u0,u1,u2]) rfl ⟨D,st,at'+P,_,?_,_,I,Q,fun x s => ?_⟩
   ·rw [e3.out,Int.natCast_add]
    by_cases j1:0<P
    ·simp [j1]
    ·simp [j1]
   ·rw [e3.out] at s
    split at s
    ·cases s
     rfl
    ·cases s
end Go.Proofs.YtkkfmkhbdoeglabGreatDoor
