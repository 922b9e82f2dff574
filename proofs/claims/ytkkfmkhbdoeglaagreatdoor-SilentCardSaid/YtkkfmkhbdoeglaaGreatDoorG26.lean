/- A part of what is proved here: lemmas and contracts of single functions. No condition but those that each names. -/
import Derived.Test.YtkkfmkhbdoeglaaGreatDoorG00
import Derived.Test.YtkkfmkhbdoeglaaGreatDoorG25
set_option maxHeartbeats 8000000
set_option maxRecDepth 100000
namespace Go.Proofs.YtkkfmkhbdoeglaaGreatDoor
open Go.RowKit Go.Shelf
def FO (w:World) (d:List Part) (at' k P:Nat) (wr:World):Prop :=
 ∃ (st:Nat) (b:Value),wr.heap[w.heap.size+1]?=some (.cells #[.int .u64 (st:Nat),b,.int .i64 0] 278 (0,0))∧OwnS wr (w.heap.size+2) 1 b (fV d at' k).length (u8s (fV d at' k))∧CellsOf wr b 5∧Below w.heap.size w wr∧
  wr.heap[w.heap.size]?=some (.cells #[.int .u64 0,.slice none 0 0,.int .i64 0] 278 (0,0))∧
  ((k=0∧P=1)∨(1≤k∧∃ b0,d[at']?=some b0∧P=b0.of∧st=b0.stamp∧st≠0∧∀ i,i<k→my d at' b0.stamp b0.of i=true))∧(k≤P∨k=1)∧P≤255
theorem oW {d:List Part} {at' k:Nat} {b0:Part} (b:d[at']?=some b0) (hk:k<b0.of) (h:my d at' b0.stamp b0.of k=false):iz d at'=none:=by
 unfold iz
 rw [b]
 simp only
 rw [au]
 rintro ⟨-,-,h3⟩
 rw [eK] at h3
 rw [h3 k (cR.2 hk)] at h
 cases h
theorem ns {w W:World} {R:Nat} {i:Value} {data:List UInt8} (m:R=w.heap.size) (o:Below w.heap.size w W) (d:OwnS W (w.heap.size+2) 1 i data.length (u8s data)) (a b c:Value) :
  Below w.heap.size w (((W.setCell ⟨R,0,none⟩ a).setCell ⟨R,1,none⟩ b).setCell ⟨R,2,none⟩ c)∧BytesAt (((W.setCell ⟨R,0,none⟩ a).setCell ⟨R,1,none⟩ b).setCell ⟨R,2,none⟩ c) i data∧∀ k,i.ownBlock=some k→w.heap.size≤k∧k<(((W.setCell ⟨R,0,none⟩ a).setCell ⟨R,1,none⟩ b).setCell ⟨R,2,none⟩ c).heap.size:=by
 subst m
 have j:=d.fL
 refine ⟨((o.setCell (p:=⟨w.heap.size,0,none⟩) (af _) _).setCell (p:=⟨w.heap.size,1,none⟩) (af _) _).setCell (p:=⟨w.heap.size,2,none⟩) (af _) _,?_,fun k e=>⟨by have:=j k e;omega,by rw [size_setCell,size_setCell,size_setCell];exact d.gQ k e⟩⟩
 have l:i.ownBlock≠some w.heap.size:=fun e=>by have:=j _ e;omega
 exact ((d.bytes.gh ⟨w.heap.size,0,none⟩ a l).gh ⟨w.heap.size,1,none⟩ b l).gh ⟨w.heap.size,2,none⟩ c l
theorem CE {d:List Part} {at' k P:Nat} {st:Nat} (h:(k=0∧P=1)∨(1≤k∧∃ b0,d[at']?=some b0∧P=b0.of∧st=b0.stamp∧st≠0∧∀ i,i<k→my d at' b0.stamp b0.of i=true)) (j:k<P) (b:d[at'+k]?=none):iz d at'=none:=by
 rcases h with ⟨rfl,-⟩ | ⟨-,b0,l,rfl,-,-,-⟩
 ·unfold iz
  rw [cx] at b
  rw [b]
 ·refine oW l j ?_
  unfold my
  rw [b]
theorem Cw {b:List UInt8} (h:b.length=64):∃ x y z:UInt8,(b.drop 8).take 3=[x,y,z]∧parseSec b=⟨iw (b.take 8),x.toNat,y.toNat,decide (z.toNat≤53),(b.drop 11).take z.toNat⟩:=by
 refine ⟨b.getD 8 0,b.getD 9 0,b.getD 10 0,?_,rfl⟩
 refine List.ext_getElem? fun i => ?_
 by_cases d:i<3
 ·rw [bh d,dm]
  obtain rfl | rfl | rfl:i=0∨i=1∨i=2:=by omega
  ·rw [aw (by omega)];simp [aN,aw (show 8<b.length by omega)]
  ·rw [aw (by omega)];simp [aN,aw (show 9<b.length by omega)]
  ·rw [aw (by omega)];simp [aN,aw (show 10<b.length by omega)]
 ·rw [df (by rw [aD];omega),df (by simp;omega)]
theorem oK {d:List Part} {at':Nat} {b0:Part} (b:d[at']?=some b0) (h:b0.stamp=0∨b0.i≠0∨b0.ok=false):iz d at'=none:=by
 by_cases hs:b0.stamp=0
 ·unfold iz
  rw [b]
  simp only
  rw [au (fun hc=>hc.1 hs)]
 ·by_cases j:0<b0.of
  ·refine oW b j ?_
   unfold my
   rw [cx,b]
   rcases h with h | h | h
   ·exact absurd h hs
   ·simp [h]
   ·simp [h]
  ·unfold iz
   rw [b]
   simp only
   rw [au (fun hc=>j hc.2.1)]
theorem Ep {d:List Part} {at' k s n:Nat} {b:Part} (j:d[at'+k]?=some b) (h:b.stamp≠s∨b.i≠k∨b.of≠n∨b.ok=false):my d at' s n k=false:=by
 unfold my
 rw [j]
 simp only
 rcases h with h | h | h | h <;> simp [h]
theorem rG {rows:List (List UInt8)} (h:∀ b∈rows,b.length=64) {at' k:Nat} (hk:k≤300):(fV (rows.map parseSec) at' k).length≤100000:=by
 have key:∀ k,(fV (rows.map parseSec) at' k).length≤64*k:=by
  intro k
  induction k with
  | zero=>simp [fV]
  | succ k ih =>
   unfold fV at ih⊢
   rw [List.range_succ,et,aq]
   have h1:([k].flatMap fun i=>((rows.map parseSec).getD (at'+i) default).data).length≤64:=by
    simp only [cN,List.flatMap_nil,cZ,aN,be]
    cases d:rows[at'+k]? with
    | none=>simp [default]
    | some b =>
     have:=h b (aU d)
     simp only [dR,bF]
     unfold parseSec
     simp only [aD,cd]
     omega
   omega
 have:=key k
 omega
theorem uM {d:List Part} {at' k:Nat} {b:Part} {l:List UInt8} (h:d[at'+k]?=some b) (hl:b.data=l):fV d at' (k+1)=fV d at' k++l:=by
 unfold fV
 rw [List.range_succ,et]
 congr 1
 simp [aN,h,hl]
theorem vV {w:World} {b off:Nat} {x z n:Int} {v:Value} {T:TypeId} {fz:Nat×Nat} (h:w.heap[b]?=some (.cells #[.int .u64 x,v,.int .i64 z] T fz)) (d:∀ n,v≠.int .u8 n) (hc:w.cell? ⟨b,off,none⟩=some (.int .u8 n)):False:=by
 have h1:=ae w b off _ _ _ h
 rw [hc] at h1
 match off with
 | 0=>simp at h1
 | 1=>simp at h1;exact d n h1.symm
 | 2=>simp at h1
 | k+3=>simp at h1
theorem vJ (F:Nat→Prop) (rv:Value) (rows:List (List UInt8)) (at':Nat) (w:World) (kl:RowsAt w F rv rows) (h64:∀ b∈rows,b.length=64) (hlen:rows.length≤1000) (h7:at'≤1000) :
  Calls Tryz.prog 158 #[rv,.int .i64 (at':Nat)] w fun e w'=>Below w.heap.size w w'∧∃ (st tt:Nat) (kf:Value) (data:List UInt8),e = .returned (.tuple #[.agg #[.int .u64 (st:Nat),kf,.int .i64 (tt:Nat)],.bool (iz (rows.map parseSec) at').isSome])∧BytesAt w' kf data∧(∀ b,kf.ownBlock=some b→w.heap.size≤b∧b<w'.heap.size)∧
   ∀ x,iz (rows.map parseSec) at'=some x→x=⟨st,data,tt⟩:=by
 obtain ⟨g,cap,rfl,e9,a1⟩:=kl.get
 obtain ⟨d,hd⟩:∃ d,d=rows.map parseSec:=⟨_,rfl⟩
 have gc:d.length=rows.length:=by rw [hd,aG]
 have HD:=ab hd
 have HR:=ab kl
 have HG:=ab a1
 have d6:=ab h64
 rw [←hd]
 clear hd kl a1 h64 e9
 go_enter Tryz.func158,Tryz.ntmps158
 go_wp2
 have d7:Below w.heap.size w ((w.alloc (.cells #[.int .u64 0,.slice none 0 0,.int .i64 0] 278)).alloc (.cells #[.int .u64 0,.slice none 0 0,.int .i64 0] 278)):=((Below.refl _ w).alloc (af _) _).alloc (by simp) _
 have R0:=fG _ (.cells #[.int .u64 0,.slice none 0 0,.int .i64 0] 278) (fA w (.cells #[.int .u64 0,.slice none 0 0,.int .i64 0] 278))
 have R1:=fA (w.alloc (.cells #[.int .u64 0,.slice none 0 0,.int .i64 0] 278)) (.cells #[.int .u64 0,.slice none 0 0,.int .i64 0] 278)
 rw [ax] at R1
 have co:Hid (FO w d at' 0 1 ((w.alloc (.cells #[.int .u64 0,.slice none 0 0,.int .i64 0] 278)).alloc (.cells #[.int .u64 0,.slice none 0 0,.int .i64 0] 278))):=ab ⟨0,.slice none 0 0,R1,OwnS.nil _ _ _,CellsOf.nil _ _,d7,R0,.inl ⟨rfl,rfl⟩,.inl (by omega),by omega⟩
 clear d7 R0 R1
 go_loopw [7,8] (fun p i wr=>∃ k P:Nat,p = .int .i64 (P:Int)∧i = .int .i64 (k:Int)∧FO w d at' k P wr) (fun _ i _=>300-(intOf i).toNat)
 case atStart=>exact ⟨0,1,rfl,rfl,co.out⟩
 case round =>
  obtain ⟨k,P,rfl,rfl,st,kf,r1,r2,r3,r4,r5,r6,r7,r8⟩:=hrel
  have go:=ab r1
  have bd:=ab r2
  have gp:=ab r3
  have bv:=ab r4
  have gq:=ab r5
  have cp:=ab r6
  have fd:=r4.size
  have cq:=r4.size
  have h8:=fw r1
  have h9:=fw r5
  obtain ⟨l,m,rfl⟩:=r2.shape
  have t0:wr.cell? ⟨w.heap.size+1,0,none⟩=some (.int .u64 (st:Nat)):=ae _ _ 0 _ _ _ r1
  have t1:wr.cell? ⟨w.heap.size+1,1,none⟩=some (.slice l (fV d at' k).length m):=ae _ _ 1 _ _ _ r1
  have t2:wr.cell? ⟨w.heap.size+1,2,none⟩=some (.int .i64 0):=ae _ _ 2 _ _ _ r1
  have gs:=aj _ _ 1 _ _ r1
  have gt:=aj _ _ 2 _ _ r1
  have gu:=aj _ _ 0 _ _ r1
  have u0:wr.cell? ⟨w.heap.size,0,none⟩=some (.int .u64 0):=ae _ _ 0 _ _ _ r5
  have u1:wr.cell? ⟨w.heap.size,1,none⟩=some (.slice none 0 0):=ae _ _ 1 _ _ _ r5
  have u2:wr.cell? ⟨w.heap.size,2,none⟩=some (.int .i64 0):=ae _ _ 2 _ _ _ r5
  have gv:=aj _ _ 0 _ _ r5
  have gz:=aj _ _ 1 _ _ r5
  have g3:=aj _ _ 2 _ _ r5
  clear r1 r2 r3 r4 r5 r6 co
  by_cases d8:k<P
  ·have g1:(k:Int)<P:=by omega
   by_cases g4:rows.length≤at'+k
   ·have g2:(rows.length:Int)≤(at':Int)+k:=by omega
    have d9:iz d at'=none:=CE cp.out d8 (df (by rw [gc];exact g4))
    have r:=ab d9
    clear d9
    go_wp2
    obtain ⟨D,I,Q⟩:=ns rfl bv.out bd.out (.int .u64 (st:Nat)) (.slice l (fV d at' k).length m) (.int .i64 0)
    refine aI (v := .tuple #[.agg #[.int .u64 (st:Nat),.slice l (fV d at' k).length m,.int .i64 0],.bool false]) (by simp [results,Tryz.results158,go_sem,u0,u1,u2]) rfl ⟨D,st,0,_,_,by rw [r.out];rfl,I,Q,fun x s=>by rw [r.out] at s;cases s⟩
   ·obtain ⟨b,kk⟩:∃ b,rows[at'+k]?=some b:=⟨_,aw (by omega)⟩
    have bS:b.length=64:=d6.out b (aU kk)
    have g5:=(HR.out.fP fd fun j C ty fz U _ _=>bv.out.block j (fw U)).get
    obtain ⟨g',cap',e',-,a1⟩:=g5
    obtain ⟨rfl,-,rfl⟩:=Value.slice.inj e'
    obtain ⟨g0,off,u,rfl,a0,bX⟩:=a1 _ _ kk
    have g2:(at':Int)+k<(rows.length:Int):=by omega
    have ii:¬(rows.length:Int)≤(at':Int)+k:=by omega
    have hL:((at':Int)+k).toNat=at'+k:=by omega
    obtain ⟨ua,uc,rfl,-,-⟩:=bX.1.opened
    have bt:=ab bX
    have HB:=ab kk
    have ds:=ab a0
    have io:=fE a0
    clear a1 e' bX kk
    rw [bS] at a0
    obtain ⟨x,y,z,cr,eb⟩:=Cw bS
    have ec:d[at'+k]?=some (parseSec b):=by rw [HD.out,be,HB.out];rfl
    have bi:=ab ec
    have M:=ab eb
    have fg:=ab cr
    have ip:=z.toNat_lt
    have i0:=x.toNat_lt
    have i1:=y.toNat_lt
    clear ec eb cr
    obtain ⟨q,G,g7⟩:∃ q G,ua=some ⟨q,G,none⟩:=by
     obtain ⟨a',c',e',-,s⟩:=bt.out.1.opened
     obtain ⟨b',o',g8,-⟩:=s 0 (by omega)
     obtain ⟨rfl,-,rfl⟩:=Value.slice.inj e'
     exact ⟨b',o',g8⟩
    subst g7
    have ed:Hid (b.length≤uc∧∃ C fz,wr.heap[q]?=some (.cells C 5 fz)):=ab (by
     obtain ⟨a',c',e',g9,-⟩:=bt.out.1.opened
     obtain ⟨-,-,rfl⟩:=Value.slice.inj e'
     exact ⟨g9,bt.out.2.1 q rfl⟩)
    go_wp2_with fail
    have b7:=fA wr (.cells #[.slice (some ⟨q,G,none⟩) 64 uc,.int .i64 0,.int .i64 0,.pointer none] 211)
    have eg:Hid (Below wr.heap.size wr (wr.alloc (.cells #[.slice (some ⟨q,G,none⟩) 64 uc,.int .i64 0,.int .i64 0,.pointer none] 211))):=ab ((Below.refl _ wr).alloc (af _) _)
    have hb:Hid (mz (wr.alloc (.cells #[.slice (some ⟨q,G,none⟩) 64 uc,.int .i64 0,.int .i64 0,.pointer none] 211)) wr.heap.size q G uc 0 0 b):=ab (by
     refine ⟨by rw [bS];exact b7,bt.out.1.below eg.out,?_,ed.out.1,by omega⟩
     obtain ⟨C,fz,kn⟩:=ed.out.2
     have:=fw kn
     omega)
    refine (Dy wr.heap.size q G uc 0 0 b _ hb.out (by omega)).mono ?_
    rintro e w5 ⟨rfl,cs,ej⟩
    have el:iw ((b.drop 0).take 8)=(parseSec b).stamp:=rfl
    rw [el]
    have hf:Hid (Ext (fun j=>j=wr.heap.size) wr w5):=ab ((Ext.fD eg.out).trans ej)
    have fk:=ab cs
    obtain ⟨S,ko⟩:∃ S,S=(parseSec b).stamp:=⟨_,rfl⟩
    rw [←ko]
    have HS:=ab ko
    clear cs ej el b7 ko a0
    go_wp2_with fail
    refine (wK wr.heap.size q G uc 0 8 3 b w5 fk.out (by omega) (by omega) (by omega)).mono ?_
    rintro e V ⟨rfl,b1,em⟩
    have cu:=b1.part 8 (n:=3) (by omega)
    rw [fg.out] at cu
    have N:Hid (Ext (fun j=>j=wr.heap.size) wr V):=ab (hf.out.trans em)
    have av:=ab b1
    obtain ⟨ha,hc,hg,hh,bw⟩:=cu.opened
    cases hg
    obtain ⟨i2,i3,e0,ag⟩:=bw 0 (by simp)
    obtain ⟨hQ,hR,D,b8⟩:=bw 1 (by simp)
    obtain ⟨hH,hI,I,bx⟩:=bw 2 (by simp)
    cases e0
    cases D
    cases I
    simp only [cg,dS,cx] at ag b8 bx
    have i4:=ab bw
    have en:=N.out.cell (p:=⟨w.heap.size+1,0,none⟩) (by show w.heap.size+1≠wr.heap.size;omega) t0
    have ca:=N.out.cell (p:=⟨w.heap.size+1,1,none⟩) (by show w.heap.size+1≠wr.heap.size;omega) t1
    have er:=N.out.cell (p:=⟨w.heap.size+1,2,none⟩) (by show w.heap.size+1≠wr.heap.size;omega) t2
    have X:=ab (N.out.at (by show w.heap.size+1≠wr.heap.size;omega) go.out)
    have aE:=ab (N.out.at (by show w.heap.size≠wr.heap.size;omega) gq.out)
    have fn:=aj _ _ 0 _ _ X.out
    have fo:=aj _ _ 1 _ _ X.out
    have fp:=aj _ _ 2 _ _ X.out
    have bk:=N.out.cell (p:=⟨w.heap.size,0,none⟩) (by show w.heap.size≠wr.heap.size;omega) u0
    have bl:=N.out.cell (p:=⟨w.heap.size,1,none⟩) (by show w.heap.size≠wr.heap.size;omega) u1
    have bn:=N.out.cell (p:=⟨w.heap.size,2,none⟩) (by show w.heap.size≠wr.heap.size;omega) u2
    have fr:=aj _ _ 0 _ _ aE.out
    have fv:=aj _ _ 1 _ _ aE.out
    have f0:=aj _ _ 2 _ _ aE.out
    have hi:=N.out.size
    have a2:Hid (Below w.heap.size w V):=ab (bv.out.trans (N.out.below (aH cq (af _)) fun j U e=>by have e':j=wr.heap.size:=e;omega))
    have W:Hid (OwnS V (w.heap.size+2) 1 (.slice l (fV d at' k).length m) (fV d at' k).length (u8s (fV d at' k))):=ab (bd.out.frame N.out.size fun j e U=>N.out.block j U (by show j≠wr.heap.size;omega))
    have eD:Hid (CellsOf V (.slice l (fV d at' k).length m) 5):=ab (gp.out.frame fun j e U=>N.out.block j U (by show j≠wr.heap.size;omega))
    have eS:Hid (q<w.heap.size):=ab (by
     obtain ⟨i5,i6,hj,-,dv⟩:=HR.out.get
     obtain ⟨hk,-,-⟩:=Value.slice.inj hj
     obtain ⟨i7,i8,u',eT,eV,hl⟩:=dv _ _ HB.out
     rw [←hk] at eT
     cases eT
     have e1:=(bv.out.cell (p:=⟨g0,off+(at'+k),none⟩) (fE eV)).trans eV
     rw [ds.out] at e1
     cases e1
     obtain ⟨C,fz,kn⟩:=hl.2.1 q rfl
     exact fw kn)
    have e2:Hid ((fV d at' k).length≤100000):=ab (by rw [HD.out];exact rG d6.out (by omega))
    have i9:q<V.heap.size:=fE ag
    have hS:q≠w.heap.size:=fun e=>by rw [e] at ag;exact vV aE.out (fun n e=>by cases e) ag
    have hT:q≠w.heap.size+1:=fun e=>by rw [e] at ag;exact vV X.out (fun n e=>by cases e) ag
    clear t0 t1 t2 gu gs gt u0 u1 u2 gv gz g3 cu bw b1 em hh
    rcases cp.out with ⟨cv,e3⟩ | ⟨hn,b0,q0,q1,q2,q3,q4⟩
    ·have d4:((k:Int)==0)=true:=by simp;omega
     have f1:(k:Int)=0:=by omega
     have c0:=ab cv
     have hV:=ab e3
     have cb:Hid (d[at']?=some (parseSec b)):=ab (by have h1:=bi.out;rw [cv,cx] at h1;exact h1)
     clear cv e3 f1
     have jp:(y.toNat:Int)<256:=by omega
     have j0:IntKind.i64.wrap (y.toNat:Int)=(y.toNat:Int):=IntWalk.i64_in _ (by omega)
     go_wp2
     go_region
     obtain ⟨J,bo⟩:∃ J,J=(V.setCell ⟨w.heap.size+1,0,none⟩ (.int .u64 (S:Nat))).drew:=⟨_,rfl⟩
     have E:∀ j,j≠w.heap.size+1→J.heap[j]?=V.heap[j]?:=fun j U=>by rw [bo];exact Below.heap_setCell V ⟨w.heap.size+1,0,none⟩ _ j U
     have ho:V.heap.size≤J.heap.size:=by rw [bo];show V.heap.size≤(V.setCell ⟨w.heap.size+1,0,none⟩ (.int .u64 (S:Nat))).heap.size;rw [size_setCell];exact af _
     have Y:Hid (J.heap[w.heap.size+1]?=some (.cells #[.int .u64 (S:Nat),.slice l (fV d at' k).length m,.int .i64 0] 278 (0,0))):=ab (by rw [bo];exact heap_setCell _ _ 0 _ X.out)
     have Z:=ab ((E w.heap.size (by omega)).trans aE.out)
     have f2:Hid (mz J wr.heap.size q G uc 8 11 b):=ab ⟨(E _ (by omega)).trans av.out.row,fH.frame av.out.bytes (fun j e _=>E j (by cases e;omega)),av.out.ne,av.out.cap,av.out.len⟩
     have bz:Hid (OwnS J (w.heap.size+2) 1 (.slice l (fV d at' k).length m) (fV d at' k).length (u8s (fV d at' k))):=ab (W.out.frame ho fun j e _=>E j (by have:=W.out.fL j e;omega))
     have hp:Hid (CellsOf J (.slice l (fV d at' k).length m) 5):=ab (eD.out.frame fun j e _=>E j (by have:=W.out.fL j e;omega))
     have ce:Hid (Below w.heap.size w J):=ab (by rw [bo];exact (a2.out.setCell (p:=⟨w.heap.size+1,0,none⟩) (by simp) _).drew)
     rw [←bo]
     have hr:J.cell? ⟨w.heap.size+1,0,none⟩=some (.int .u64 (S:Nat)):=ae _ _ 0 _ _ _ Y.out
     have c1:J.cell? ⟨w.heap.size+1,1,none⟩=some (.slice l (fV d at' k).length m):=ae _ _ 1 _ _ _ Y.out
     have hs:J.cell? ⟨w.heap.size+1,2,none⟩=some (.int .i64 0):=ae _ _ 2 _ _ _ Y.out
     have c2:J.cell? ⟨w.heap.size,0,none⟩=some (.int .u64 0):=ae _ _ 0 _ _ _ Z.out
     have c3:J.cell? ⟨w.heap.size,1,none⟩=some (.slice none 0 0):=ae _ _ 1 _ _ _ Z.out
     have c4:J.cell? ⟨w.heap.size,2,none⟩=some (.int .i64 0):=ae _ _ 2 _ _ _ Z.out
     have hW:=aj _ _ 0 _ _ Z.out
     have hX:=aj _ _ 1 _ _ Z.out
     have hY:=aj _ _ 2 _ _ Z.out
     have hZ:=aj _ _ 1 _ _ Y.out
     have kr:J.cell? ⟨q,G+8,none⟩=some (.int .u8 (x.toNat:Int)):=(aQ (w:=V) (E q (by omega))).trans ag
     have hu:J.cell? ⟨q,G+8+1,none⟩=some (.int .u8 (y.toNat:Int)):=(aQ (w:=V) (E q (by omega))).trans b8
     have ks:J.cell? ⟨q,G+8+2,none⟩=some (.int .u8 (z.toNat:Int)):=(aQ (w:=V) (E q (by omega))).trans bx
     have h0:=fw Y.out
     have h2:q<J.heap.size:=fE kr
     have f3:wr.heap.size≤J.heap.size:=by omega
     clear bo E en ca er fn fo fp bk bl bn fr fv f0 ag b8 bx
     by_cases bD:S=0
     ·have b2:((S:Int)==0)=true:=by simp;omega
      have hw:=ab bD
      clear bD
      have r:Hid (iz d at'=none):=ab (oK cb.out (.inl (by rw [←HS.out,hw.out])))
      go_wp2
      obtain ⟨D,I,Q⟩:=ns rfl ce.out bz.out (.int .u64 (S:Nat)) (.slice l (fV d at' k).length m) (.int .i64 0)
      refine aI (v := .tuple #[.agg #[.int .u64 (S:Nat),.slice l (fV d at' k).length m,.int .i64 0],.bool false]) (by simp [results,Tryz.results158,go_sem,c2,c3,c4]) rfl ⟨D,S,0,_,_,by rw [r.out];rfl,I,Q,fun x s=>by rw [r.out] at s;cases s⟩
     ·have b2:((S:Int)==0)=false:=by simp;omega
      by_cases a3:x.toNat=k
      ·have b3:((x.toNat:Int) != (k:Int))=false:=by simp;omega
       have c5:=ab a3
       clear a3
       by_cases hx:z.toNat≤53
       ·have b4:¬(53:Int)<(z.toNat:Int):=by omega
        have f4:q<w.heap.size:=eS.out
        have a4:Hid (∀ j,(Value.slice l (fV d at' k).length m).ownBlock=some j→w.heap.size+2≤j):=ab bz.out.fL
        have a5:Hid (∀ j,(Value.slice l (fV d at' k).length m).ownBlock=some j→j<wr.heap.size):=ab bd.out.gQ
        have hy:IntKind.i64.wrap (z.toNat:Int)=(z.toNat:Int):=IntWalk.i64_in _ (by omega)
        have a6:=ks
        go_wp2
        trace_state
        refine gW (n:=10) (S:=(fun w'=>w'.cell? ⟨w.heap.size+1,1,none⟩=some (.slice l (fV d at' k).length m)∧w'.cell? ⟨q,G+8+2,none⟩=some (.int .u8 (z.toNat:Int)))) (by kernel_rfl) (by kernel_rfl) rfl (by first | exact ⟨c1,a6⟩ | exact ⟨ak,al⟩) ?_
        intro f5
        simp only [cH,bW,cw,cG,bj,bY,aZ,bm,bJ,aO,aV]
        refine wpAnyH_take (i:=0) (v := ?_) rfl (by kernel_rfl) (by kernel_rfl) (by kernel_rfl) (fun _ _ _ h=>h) (Or.inl ⟨by rfl,?_⟩) (by assumption) ?_
        rotate_left 1
        ·(intro w o;(try dsimp only at o);go_simp;(try with_reducible rfl))
        try simp only [Act.put,ah,ai]
        refine wpAnyH_take (i:=1) (v := ?_) rfl (by kernel_rfl) (by kernel_rfl) (by kernel_rfl) (fun _ _ _ h=>h) (Or.inl ⟨by rfl,?_⟩) (by assumption) ?_
        rotate_left 1
        ·(intro w o;(try dsimp only at o);go_simp;(try with_reducible rfl))
        try simp only [Act.put,ah,ai,ao]
        refine wpAnyH_take (i:=2) (v := ?_) rfl (by kernel_rfl) (by kernel_rfl) (by kernel_rfl) (fun _ _ _ h=>h) (Or.inl ⟨by rfl,?_⟩) (by assumption) ?_
        rotate_left 1
        ·(intro w o;(try dsimp only at o);go_simp;(try with_reducible rfl))
        try simp only [Act.put,ah,ai,ao]
        refine wpAnyH_take (i:=3) (v := ?_) rfl (by kernel_rfl) (by kernel_rfl) (by kernel_rfl) (fun _ _ _ h=>h) (Or.inl ⟨by rfl,?_⟩) (by assumption) ?_
        rotate_left 1
        ·(intro w o;(try dsimp only at o);go_simp;(try with_reducible rfl))
        try simp only [Act.put,ah,ai,ao]
        refine wpAnyH_take (i:=4) (v := ?_) rfl (by kernel_rfl) (by kernel_rfl) (by kernel_rfl) (fun _ _ _ h=>h) (Or.inl ⟨by rfl,?_⟩) (by assumption) ?_
        rotate_left 1
        ·(intro w o;(try dsimp only at o);go_simp;(try with_reducible rfl))
        try simp only [Act.put,ah,ai,ao]
        refine wpAnyH_take (i:=5) (v := ?_) rfl (by kernel_rfl) (by kernel_rfl) (by kernel_rfl) (fun _ _ _ h=>h) (Or.inl ⟨by rfl,?_⟩) (by assumption) ?_
        rotate_left 1
        ·(intro w o;(try dsimp only at o);go_simp;(try with_reducible rfl))
        try simp only [Act.put,ah,ai,ao]
        refine wpAnyH_take (i:=6) (v := ?_) rfl (by kernel_rfl) (by kernel_rfl) (by kernel_rfl) (fun _ _ _ h=>h) (Or.inl ⟨by rfl,?_⟩) (by assumption) ?_
        rotate_left 1
        ·(intro w o;(try dsimp only at o);go_simp;(try with_reducible rfl))
        try simp only [Act.put,ah,ai,ao]
        refine wpAnyH_ready (rs:=[7]) (by kernel_rfl) (by simp) ?_
        refine AllReadyH.cons rfl ?_ AllReadyH.nil
        intro K' hK'
        go_simp;go_at_call 121;refine (yw wr.heap.size q G uc 8 11 z.toNat b _ f2.out.drew (by omega) (by omega)).mono ?_;rintro e w7 ⟨⟨pv,rfl,bH⟩,b6,O⟩;have B:Hid (Ext (fun j=>j=wr.heap.size) J w7):=ab ⟨O.os,O.tape,O.output,O.size,O.block⟩;have ak:w7.cell? ⟨w.heap.size+1,1,none⟩=some (.slice l (fV d at' k).length m):=B.out.cell (p:=⟨w.heap.size+1,1,none⟩) (by show w.heap.size+1≠wr.heap.size;omega) c1;have al:w7.cell? ⟨q,G+8+2,none⟩=some (.int .u8 (z.toNat:Int)):=B.out.cell (p:=⟨q,G+8+2,none⟩) (by show q≠wr.heap.size;omega) a6;have c6:=ab bH;clear b6 O bH;refine hK'.out _ _ ⟨ak,al⟩ ?_
        clear hK' K'
        intro f6
        try simp only [ah,ai,ao]
        refine wpAnyH_ready (rs:=[8]) (by kernel_rfl) (by simp) ?_
        refine AllReadyH.cons rfl ?_ AllReadyH.nil
        intro K' hK'
        refine kx rfl (.tmp 77) (.tmp 83) rfl (w.heap.size+2) (.slice l (fV d at' k).length m) (fV d at' k).length (fV d at' k) rfl (by exact bz.out.frame B.out.size fun j e U=>B.out.block j U (by show j≠wr.heap.size;have:=a5.out j e;omega)) (by exact hp.out.frame fun j e U=>B.out.block j U (by show j≠wr.heap.size;have:=a5.out j e;omega)) ((b.drop 11).take z.toNat) (by exact c6.out) (by have:=e2.out;rw [aD];omega) (by have:=B.out.size;omega) ?_;intro v8 w8 R am a9 bI;obtain ⟨bL,bM,rfl⟩:=R.shape;have bN:=ab bI;have bO:=ab R;have c7:=ab a9;have c8:=ab am;have f7:=B.out.size;have ba:w8.cell? ⟨w.heap.size+1,1,none⟩=some (.slice l (fV d at' k).length m):=(aQ (w:=w7) (am.block (w.heap.size+1) (by omega) (fun e=>by have:=a4.out _ e.symm;omega))).trans ak;have bP:w8.cell? ⟨q,G+8+2,none⟩=some (.int .u8 (z.toNat:Int)):=(aQ (w:=w7) (am.block q (by omega) (fun e=>by have:=a4.out _ e.symm;omega))).trans al;clear R am a9 bI;refine hK'.out _ _ ⟨ba,bP⟩ ?_
        clear hK' K'
        intro f8
        try simp only [Act.put,ah,ai,ao]
        refine wpAnyH_take (i:=9) (v := ?_) rfl (by kernel_rfl) (by kernel_rfl) (by kernel_rfl) (fun _ _ _ h=>h) (Or.inl ⟨by rfl,?_⟩) (by assumption) ?_
        rotate_left 1
        ·(intro w o;(try dsimp only at o);go_simp;(try with_reducible rfl))
        try simp only [Act.put,ah,ai,ao]
        refine wpAnyH_done (by kernel_rfl) ?_ _
        show Oper.wp _ _ _ _ _ _
        have D:=ba
        have c9:=aj _ _ 1 _ _ Y.out
        have aa:Hid (w8.heap[w.heap.size+1]?=some (.cells #[.int .u64 (S:Nat),.slice l (fV d at' k).length m,.int .i64 0] 278 (0,0))):=ab ((c8.out.block (w.heap.size+1) (by omega) (fun e=>by have:=a4.out _ e.symm;omega)).trans (B.out.at (by show w.heap.size+1≠wr.heap.size;omega) Y.out))
        have hz:=aj _ _ 1 _ _ aa.out
        have hA:=fw aa.out
        have da:Hid (∀ j,(Value.slice bL _ bM).ownBlock=some j→w.heap.size+2≤j):=ab bO.out.fL
        clear c9 ak al bP ba hr c1 hs kr hu ks a6
        go_wp2
        have ap:((b.drop 11).take z.toNat).length=z.toNat:=by rw [aD,cd];omega
        have dc:fV d at' (k+1)=fV d at' k++(b.drop 11).take z.toNat:=uM bi.out (by rw [M.out])
        refine ⟨⟨k+1,y.toNat,rfl,by go_num,S,.slice bL ((fV d at' k).length+z.toNat) bM,heap_setCell _ _ 1 _ aa.out,?_,?_,?_,?_,.inr ⟨by omega,parseSec b,cb.out,by rw [M.out],HS.out,bD,fun i kp => ?_⟩,.inr (by have:=c0.out;omega),by omega⟩,by simp [intOf];omega⟩
        ·rw [dc,aq,ap]
         have h1:=bO.out
         rw [ap] at h1
         exact h1.frame (by rw [size_setCell];exact af _) fun j e _=>Below.heap_setCell w8 ⟨w.heap.size+1,1,none⟩ _ j (by show j≠w.heap.size+1;have:=h1.fL j e;omega)
        ·have h1:=c7.out
         rw [ap] at h1
         exact h1.frame fun j e _=>Below.heap_setCell w8 ⟨w.heap.size+1,1,none⟩ _ j (by show j≠w.heap.size+1;have:=da.out j (by rw [ap];exact e);omega)
        ·exact ((ce.out.trans (B.out.below (aH cq f3) fun j U e=>by have e':j=wr.heap.size:=e;omega)).trans (bN.out.mono (by omega))).setCell (p:=⟨w.heap.size+1,1,none⟩) (by simp) _
        ·exact (Below.heap_setCell w8 ⟨w.heap.size+1,1,none⟩ _ w.heap.size (by show w.heap.size≠w.heap.size+1;omega)).trans ((bN.out.block _ (by omega)).trans (B.out.at (by show w.heap.size≠wr.heap.size;omega) Z.out))
        ·obtain rfl:i=k:=by have:=c0.out;omega
         exact mD.2 ⟨_,bi.out,rfl,by rw [M.out];exact c5.out,rfl,by rw [M.out];simp;omega⟩
       ·have b4:(53:Int)<(z.toNat:Int):=by omega
        have r:Hid (iz d at'=none):=ab (oK cb.out (.inr (.inr (by rw [M.out];simp;omega))))
        go_wp2
        obtain ⟨D,I,Q⟩:=ns rfl ce.out bz.out (.int .u64 (S:Nat)) (.slice l (fV d at' k).length m) (.int .i64 0)
        refine aI (v := .tuple #[.agg #[.int .u64 (S:Nat),.slice l (fV d at' k).length m,.int .i64 0],.bool false]) (by simp [results,Tryz.results158,go_sem,c2,c3,c4]) rfl ⟨D,S,0,_,_,by rw [r.out];rfl,I,Q,fun x s=>by rw [r.out] at s;cases s⟩
      ·have b3:((x.toNat:Int) != (k:Int))=true:=by simp;omega
       have r:Hid (iz d at'=none):=ab (oK cb.out (.inr (.inl (by rw [M.out];show x.toNat≠0;rw [←c0.out];exact a3))))
       go_wp2
       obtain ⟨D,I,Q⟩:=ns rfl ce.out bz.out (.int .u64 (S:Nat)) (.slice l (fV d at' k).length m) (.int .i64 0)
       refine aI (v := .tuple #[.agg #[.int .u64 (S:Nat),.slice l (fV d at' k).length m,.int .i64 0],.bool false]) (by simp [results,Tryz.results158,go_sem,c2,c3,c4]) rfl ⟨D,S,0,_,_,by rw [r.out];rfl,I,Q,fun x s=>by rw [r.out] at s;cases s⟩
    ·have e4:=ab q0
     have ci:=ab q1
     have cl:=ab q2
     have hB:=ab q4
     have h5:¬k=0:=by omega
     have d4:((k:Int)==0)=false:=by simp;omega
     have bb:Hid (((parseSec b).stamp≠b0.stamp∨(parseSec b).i≠k∨(parseSec b).of≠b0.of∨(parseSec b).ok=false)→iz d at'=none):=ab fun h=>oW e4.out (by rw [←ci.out];exact d8) (Ep bi.out h)
     clear q0 q1 q2 q4
     by_cases bD:S=0
     ·have b2:((S:Int)==0)=true:=by simp;omega
      have r:Hid (iz d at'=none):=ab (bb.out (.inl (by rw [←HS.out,←cl.out,bD];exact ea q3)))
      go_wp2
      obtain ⟨D,I,Q⟩:=ns rfl a2.out W.out (.int .u64 (st:Nat)) (.slice l (fV d at' k).length m) (.int .i64 0)
      refine aI (v := .tuple #[.agg #[.int .u64 (st:Nat),.slice l (fV d at' k).length m,.int .i64 0],.bool false]) (by simp [results,Tryz.results158,go_sem,bk,bl,bn]) rfl ⟨D,st,0,_,_,by rw [r.out];rfl,I,Q,fun x s=>by rw [r.out] at s;cases s⟩
     ·have b2:((S:Int)==0)=false:=by simp;omega
      by_cases e5:S=st
      ·obtain rfl:=e5
       by_cases a3:x.toNat=k
       ·have b3:((x.toNat:Int) != (k:Int))=false:=by simp;omega
        have c5:=ab a3
        clear a3
        by_cases dk:y.toNat=P
        ·have ga:((y.toNat:Int) != (P:Int))=false:=by simp;omega
         have hC:=ab dk
         clear dk
         by_cases hx:z.toNat≤53
         ·have b4:¬(53:Int)<(z.toNat:Int):=by omega
          have f4:q<w.heap.size:=eS.out
          have a4:Hid (∀ j,(Value.slice l (fV d at' k).length m).ownBlock=some j→w.heap.size+2≤j):=ab W.out.fL
          have a5:Hid (∀ j,(Value.slice l (fV d at' k).length m).ownBlock=some j→j<wr.heap.size):=ab bd.out.gQ
          have hy:IntKind.i64.wrap (z.toNat:Int)=(z.toNat:Int):=IntWalk.i64_in _ (by omega)
          have a6:V.cell? ⟨q,G+8+2,none⟩=some (.int .u8 (z.toNat:Int)):=bx
          go_wp2
          trace_state
          refine gW (n:=10) (S:=(fun w'=>w'.cell? ⟨w.heap.size+1,1,none⟩=some (.slice l (fV d at' k).length m)∧w'.cell? ⟨q,G+8+2,none⟩=some (.int .u8 (z.toNat:Int)))) (by kernel_rfl) (by kernel_rfl) rfl (by first | exact ⟨ca,a6⟩ | exact ⟨ak,al⟩) ?_
          intro f5
          simp only [cH,bW,cw,cG,bj,bY,aZ,bm,bJ,aO,aV]
          refine wpAnyH_take (i:=0) (v := ?_) rfl (by kernel_rfl) (by kernel_rfl) (by kernel_rfl) (fun _ _ _ h=>h) (Or.inl ⟨by rfl,?_⟩) (by assumption) ?_
          rotate_left 1
          ·(intro w o;(try dsimp only at o);go_simp;(try with_reducible rfl))
          try simp only [Act.put,ah,ai]
          refine wpAnyH_take (i:=1) (v := ?_) rfl (by kernel_rfl) (by kernel_rfl) (by kernel_rfl) (fun _ _ _ h=>h) (Or.inl ⟨by rfl,?_⟩) (by assumption) ?_
          rotate_left 1
          ·(intro w o;(try dsimp only at o);go_simp;(try with_reducible rfl))
          try simp only [Act.put,ah,ai,ao]
          refine wpAnyH_take (i:=2) (v := ?_) rfl (by kernel_rfl) (by kernel_rfl) (by kernel_rfl) (fun _ _ _ h=>h) (Or.inl ⟨by rfl,?_⟩) (by assumption) ?_
          rotate_left 1
          ·(intro w o;(try dsimp only at o);go_simp;(try with_reducible rfl))
          try simp only [Act.put,ah,ai,ao]
          refine wpAnyH_take (i:=3) (v := ?_) rfl (by kernel_rfl) (by kernel_rfl) (by kernel_rfl) (fun _ _ _ h=>h) (Or.inl ⟨by rfl,?_⟩) (by assumption) ?_
          rotate_left 1
          ·(intro w o;(try dsimp only at o);go_simp;(try with_reducible rfl))
          try simp only [Act.put,ah,ai,ao]
          refine wpAnyH_take (i:=4) (v := ?_) rfl (by kernel_rfl) (by kernel_rfl) (by kernel_rfl) (fun _ _ _ h=>h) (Or.inl ⟨by rfl,?_⟩) (by assumption) ?_
          rotate_left 1
          ·(intro w o;(try dsimp only at o);go_simp;(try with_reducible rfl))
          try simp only [Act.put,ah,ai,ao]
          refine wpAnyH_take (i:=5) (v := ?_) rfl (by kernel_rfl) (by kernel_rfl) (by kernel_rfl) (fun _ _ _ h=>h) (Or.inl ⟨by rfl,?_⟩) (by assumption) ?_
          rotate_left 1
          ·(intro w o;(try dsimp only at o);go_simp;(try with_reducible rfl))
          try simp only [Act.put,ah,ai,ao]
          refine wpAnyH_take (i:=6) (v := ?_) rfl (by kernel_rfl) (by kernel_rfl) (by kernel_rfl) (fun _ _ _ h=>h) (Or.inl ⟨by rfl,?_⟩) (by assumption) ?_
          rotate_left 1
          ·(intro w o;(try dsimp only at o);go_simp;(try with_reducible rfl))
          try simp only [Act.put,ah,ai,ao]
          refine wpAnyH_ready (rs:=[7]) (by kernel_rfl) (by simp) ?_
          refine AllReadyH.cons rfl ?_ AllReadyH.nil
          intro K' hK'
          go_simp;go_at_call 121;refine (yw wr.heap.size q G uc 8 11 z.toNat b _ av.out.drew (by omega) (by omega)).mono ?_;rintro e w7 ⟨⟨pv,rfl,bH⟩,b6,O⟩;have B:Hid (Ext (fun j=>j=wr.heap.size) V w7):=ab ⟨O.os,O.tape,O.output,O.size,O.block⟩;have ak:w7.cell? ⟨w.heap.size+1,1,none⟩=some (.slice l (fV d at' k).length m):=B.out.cell (p:=⟨w.heap.size+1,1,none⟩) (by show w.heap.size+1≠wr.heap.size;omega) ca;have al:w7.cell? ⟨q,G+8+2,none⟩=some (.int .u8 (z.toNat:Int)):=B.out.cell (p:=⟨q,G+8+2,none⟩) (by show q≠wr.heap.size;omega) a6;have c6:=ab bH;clear b6 O bH;refine hK'.out _ _ ⟨ak,al⟩ ?_
          clear hK' K'
          intro f6
          try simp only [ah,ai,ao]
          refine wpAnyH_ready (rs:=[8]) (by kernel_rfl) (by simp) ?_
          refine AllReadyH.cons rfl ?_ AllReadyH.nil
          intro K' hK'
          refine kx rfl (.tmp 77) (.tmp 83) rfl (w.heap.size+2) (.slice l (fV d at' k).length m) (fV d at' k).length (fV d at' k) rfl (by exact W.out.frame B.out.size fun j e U=>B.out.block j U (by show j≠wr.heap.size;have:=a5.out j e;omega)) (by exact eD.out.frame fun j e U=>B.out.block j U (by show j≠wr.heap.size;have:=a5.out j e;omega)) ((b.drop 11).take z.toNat) (by exact c6.out) (by have:=e2.out;rw [aD];omega) (by have:=B.out.size;omega) ?_;intro v8 w8 R am a9 bI;obtain ⟨bL,bM,rfl⟩:=R.shape;have bN:=ab bI;have bO:=ab R;have c7:=ab a9;have c8:=ab am;have f7:=B.out.size;have ba:w8.cell? ⟨w.heap.size+1,1,none⟩=some (.slice l (fV d at' k).length m):=(aQ (w:=w7) (am.block (w.heap.size+1) (by omega) (fun e=>by have:=a4.out _ e.symm;omega))).trans ak;have bP:w8.cell? ⟨q,G+8+2,none⟩=some (.int .u8 (z.toNat:Int)):=(aQ (w:=w7) (am.block q (by omega) (fun e=>by have:=a4.out _ e.symm;omega))).trans al;clear R am a9 bI;refine hK'.out _ _ ⟨ba,bP⟩ ?_
          clear hK' K'
          intro f8
          try simp only [Act.put,ah,ai,ao]
          refine wpAnyH_take (i:=9) (v := ?_) rfl (by kernel_rfl) (by kernel_rfl) (by kernel_rfl) (fun _ _ _ h=>h) (Or.inl ⟨by rfl,?_⟩) (by assumption) ?_
          rotate_left 1
          ·(intro w o;(try dsimp only at o);go_simp;(try with_reducible rfl))
          try simp only [Act.put,ah,ai,ao]
          refine wpAnyH_done (by kernel_rfl) ?_ _
          show Oper.wp _ _ _ _ _ _
          have D:=ba
          have c9:=aj _ _ 1 _ _ X.out
          have aa:Hid (w8.heap[w.heap.size+1]?=some (.cells #[.int .u64 (S:Nat),.slice l (fV d at' k).length m,.int .i64 0] 278 (0,0))):=ab ((c8.out.block (w.heap.size+1) (by omega) (fun e=>by have:=a4.out _ e.symm;omega)).trans (B.out.at (by show w.heap.size+1≠wr.heap.size;omega) X.out))
          have hz:=aj _ _ 1 _ _ aa.out
          have hA:=fw aa.out
          have da:Hid (∀ j,(Value.slice bL _ bM).ownBlock=some j→w.heap.size+2≤j):=ab bO.out.fL
          clear c9 ak al bP ba en ca er ag b8 bx a6
          go_wp2
          have ap:((b.drop 11).take z.toNat).length=z.toNat:=by rw [aD,cd];omega
          have dc:fV d at' (k+1)=fV d at' k++(b.drop 11).take z.toNat:=uM bi.out (by rw [M.out])
          refine ⟨⟨k+1,P,rfl,by go_num,S,.slice bL ((fV d at' k).length+z.toNat) bM,heap_setCell _ _ 1 _ aa.out,?_,?_,?_,?_,.inr ⟨by omega,b0,e4.out,ci.out,cl.out,q3,fun i kp => ?_⟩,.inl (by omega),r8⟩,by simp [intOf];omega⟩
          ·rw [dc,aq,ap]
           have h1:=bO.out
           rw [ap] at h1
           exact h1.frame (by rw [size_setCell];exact af _) fun j e _=>Below.heap_setCell w8 ⟨w.heap.size+1,1,none⟩ _ j (by show j≠w.heap.size+1;have:=h1.fL j e;omega)
          ·have h1:=c7.out
           rw [ap] at h1
           exact h1.frame fun j e _=>Below.heap_setCell w8 ⟨w.heap.size+1,1,none⟩ _ j (by show j≠w.heap.size+1;have:=da.out j (by rw [ap];exact e);omega)
          ·exact ((a2.out.trans (B.out.below (aH cq hi) fun j U e=>by have e':j=wr.heap.size:=e;omega)).trans (bN.out.mono (by omega))).setCell (p:=⟨w.heap.size+1,1,none⟩) (by simp) _
          ·exact (Below.heap_setCell w8 ⟨w.heap.size+1,1,none⟩ _ w.heap.size (by show w.heap.size≠w.heap.size+1;omega)).trans ((bN.out.block _ (by omega)).trans (B.out.at (by show w.heap.size≠wr.heap.size;omega) aE.out))
          ·by_cases hD:i<k
           ·exact hB.out i hD
           ·obtain rfl:i=k:=by omega
            exact mD.2 ⟨_,bi.out,by rw [←HS.out];exact cl.out,by rw [M.out];exact c5.out,by rw [M.out,←ci.out];exact hC.out,by rw [M.out];simp;omega⟩
         ·have b4:(53:Int)<(z.toNat:Int):=by omega
          have r:Hid (iz d at'=none):=ab (bb.out (.inr (.inr (.inr (by rw [M.out];simp;omega)))))
          go_wp2
          obtain ⟨D,I,Q⟩:=ns rfl a2.out W.out (.int .u64 (S:Nat)) (.slice l (fV d at' k).length m) (.int .i64 0)
          refine aI (v := .tuple #[.agg #[.int .u64 (S:Nat),.slice l (fV d at' k).length m,.int .i64 0],.bool false]) (by simp [results,Tryz.results158,go_sem,bk,bl,bn]) rfl ⟨D,S,0,_,_,by rw [r.out];rfl,I,Q,fun x s=>by rw [r.out] at s;cases s⟩
        ·have ga:((y.toNat:Int) != (P:Int))=true:=by simp;omega
         have r:Hid (iz d at'=none):=ab (bb.out (.inr (.inr (.inl (by rw [M.out,←ci.out];exact dk)))))
         go_wp2
         obtain ⟨D,I,Q⟩:=ns rfl a2.out W.out (.int .u64 (S:Nat)) (.slice l (fV d at' k).length m) (.int .i64 0)
         refine aI (v := .tuple #[.agg #[.int .u64 (S:Nat),.slice l (fV d at' k).length m,.int .i64 0],.bool false]) (by simp [results,Tryz.results158,go_sem,bk,bl,bn]) rfl ⟨D,S,0,_,_,by rw [r.out];rfl,I,Q,fun x s=>by rw [r.out] at s;cases s⟩
       ·have b3:((x.toNat:Int) != (k:Int))=true:=by simp;omega
        have r:Hid (iz d at'=none):=ab (bb.out (.inr (.inl (by rw [M.out];exact a3))))
        go_wp2
        obtain ⟨D,I,Q⟩:=ns rfl a2.out W.out (.int .u64 (S:Nat)) (.slice l (fV d at' k).length m) (.int .i64 0)
        refine aI (v := .tuple #[.agg #[.int .u64 (S:Nat),.slice l (fV d at' k).length m,.int .i64 0],.bool false]) (by simp [results,Tryz.results158,go_sem,bk,bl,bn]) rfl ⟨D,S,0,_,_,by rw [r.out];rfl,I,Q,fun x s=>by rw [r.out] at s;cases s⟩
      ·have h6:((S:Int) != (st:Int))=true:=by simp;omega
       have r:Hid (iz d at'=none):=ab (bb.out (.inl (by rw [←HS.out,←cl.out];exact e5)))
       go_wp2
       obtain ⟨D,I,Q⟩:=ns rfl a2.out W.out (.int .u64 (st:Nat)) (.slice l (fV d at' k).length m) (.int .i64 0)
       refine aI (v := .tuple #[.agg #[.int .u64 (st:Nat),.slice l (fV d at' k).length m,.int .i64 0],.bool false]) (by simp [results,Tryz.results158,go_sem,bk,bl,bn]) rfl ⟨D,st,0,_,_,by rw [r.out];rfl,I,Q,fun x s=>by rw [r.out] at s;cases s⟩
  ·have g1:¬(k:Int)<P:=by omega
   have e6:Hid (iz d at'=if 0<P then some ⟨st,fV d at' k,at'+P⟩ else none):=ab (by
    rcases cp.out with ⟨D,I⟩ | ⟨hn,b0,q0,q1,q2,q3,q4⟩
    ·omega
    ·split
     ·rename_i hP
      have hE:k=P:=by omega
      rw [hE] at q4⊢
      exact iI.2 ⟨P,hP,q3,rfl,rfl,fun i kp=>by rw [q1,q2];exact mD.1 (q4 i kp)⟩
     ·unfold iz
      rw [q0]
      simp only
      rw [au (fun hc=>by omega)])
   have e7:decide ((0:Int)<(P:Int))=decide (0<P):=by simp
   have j1:=ab e7
   clear e7
   go_wp2
   have hG:OwnS (wr.setCell ⟨w.heap.size+1,2,none⟩ (.int .i64 ((at':Int)+(P:Int)))) (w.heap.size+2) 1 (.slice l (fV d at' k).length m) (fV d at' k).length (u8s (fV d at' k)) :=
    bd.out.frame (by rw [size_setCell];exact af _) fun j e _=>Below.heap_setCell wr ⟨w.heap.size+1,2,none⟩ _ j (by show j≠w.heap.size+1;have:=bd.out.fL j e;omega)
   obtain ⟨D,I,Q⟩:=ns rfl (bv.out.setCell (p:=⟨w.heap.size+1,2,none⟩) (by simp) (.int .i64 ((at':Int)+(P:Int)))) hG (.int .u64 (st:Nat)) (.slice l (fV d at' k).length m) (.int .i64 ((at':Int)+(P:Int)))
   refine aI (v := .tuple #[.agg #[.int .u64 (st:Nat),.slice l (fV d at' k).length m,.int .i64 ((at':Int)+(P:Int))],.bool (decide (0<P))]) (by simp [results,Tryz.results158,go_sem,u0,u1,u2]) rfl ⟨D,st,at'+P,_,?_,_,I,Q,fun x s => ?_⟩
   ·rw [e6.out,Int.natCast_add]
    by_cases hP:0<P
    ·simp [hP]
    ·simp [hP]
   ·rw [e6.out] at s
    split at s
    ·cases s
     rfl
    ·cases s
end Go.Proofs.YtkkfmkhbdoeglaaGreatDoor
