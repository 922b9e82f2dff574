/- A part of what is proved here: lemmas and contracts of single functions. No condition but those that each names. -/
import Derived.Test.YtkkfmkhbdoeglaaGreatDoorG00
import Derived.Test.YtkkfmkhbdoeglaaGreatDoorG18
set_option maxHeartbeats 8000000
set_option maxRecDepth 100000
namespace Go.Proofs.YtkkfmkhbdoeglaaGreatDoor
open Go.RowKit Go.Shelf
def Hk (w:World) (d:List Part) (at' k P:Nat) (wr:World):Prop :=
 ∃ (st:Nat) (b:Value),wr.heap[w.heap.size+1]?=some (.cells #[.int .u64 (st:Nat),b,.int .i64 0] 278 (0,0))∧OwnS wr (w.heap.size+2) 1 b (gA d at' k).length (u8s (gA d at' k))∧CellsOf wr b 5∧Below w.heap.size w wr∧
  wr.heap[w.heap.size]?=some (.cells #[.int .u64 0,.slice none 0 0,.int .i64 0] 278 (0,0))∧
  ((k=0∧P=1)∨(1≤k∧∃ b0,d[at']?=some b0∧P=b0.of∧st=b0.stamp∧st≠0∧∀ i,i<k→nD d at' b0.stamp b0.of i=true))∧(k≤P∨k=1)∧P≤255
theorem qv {d:List Part} {at' k:Nat} {b0:Part} (b:d[at']?=some b0) (hk:k<b0.of) (h:nD d at' b0.stamp b0.of k=false):iS d at'=none:=by
 unfold iS
 rw [b]
 simp only
 rw [aw]
 rintro ⟨-,-,h3⟩
 rw [eX] at h3
 rw [h3 k (cV.2 hk)] at h
 cases h
theorem ot {w W:World} {R:Nat} {i:Value} {data:List UInt8} (m:R=w.heap.size) (o:Below w.heap.size w W) (d:OwnS W (w.heap.size+2) 1 i data.length (u8s data)) (a b c:Value) :
  Below w.heap.size w (((W.setCell ⟨R,0,none⟩ a).setCell ⟨R,1,none⟩ b).setCell ⟨R,2,none⟩ c)∧BytesAt (((W.setCell ⟨R,0,none⟩ a).setCell ⟨R,1,none⟩ b).setCell ⟨R,2,none⟩ c) i data∧∀ k,i.ownBlock=some k→w.heap.size≤k∧k<(((W.setCell ⟨R,0,none⟩ a).setCell ⟨R,1,none⟩ b).setCell ⟨R,2,none⟩ c).heap.size:=by
 subst m
 have j:=d.fU
 refine ⟨((o.setCell (p:=⟨w.heap.size,0,none⟩) (ah _) _).setCell (p:=⟨w.heap.size,1,none⟩) (ah _) _).setCell (p:=⟨w.heap.size,2,none⟩) (ah _) _,?_,fun k e=>⟨by have:=j k e;omega,by rw [size_setCell,size_setCell,size_setCell];exact d.gZ k e⟩⟩
 have l:i.ownBlock≠some w.heap.size:=fun e=>by have:=j _ e;omega
 exact ((d.bytes.gh ⟨w.heap.size,0,none⟩ a l).gh ⟨w.heap.size,1,none⟩ b l).gh ⟨w.heap.size,2,none⟩ c l
theorem Ei {d:List Part} {at' k P:Nat} {st:Nat} (h:(k=0∧P=1)∨(1≤k∧∃ b0,d[at']?=some b0∧P=b0.of∧st=b0.stamp∧st≠0∧∀ i,i<k→nD d at' b0.stamp b0.of i=true)) (j:k<P) (b:d[at'+k]?=none):iS d at'=none:=by
 rcases h with ⟨rfl,-⟩ | ⟨-,b0,l,rfl,-,-,-⟩
 ·unfold iS
  rw [cC] at b
  rw [b]
 ·refine qv l j ?_
  unfold nD
  rw [b]
theorem Em {b:List UInt8} (h:b.length=64):∃ x y z:UInt8,(b.drop 8).take 3=[x,y,z]∧parseSec b=⟨iL (b.take 8),x.toNat,y.toNat,decide (z.toNat≤53),(b.drop 11).take z.toNat⟩:=by
 refine ⟨b.getD 8 0,b.getD 9 0,b.getD 10 0,?_,rfl⟩
 refine List.ext_getElem? fun i => ?_
 by_cases d:i<3
 ·rw [bp d,dy]
  obtain rfl | rfl | rfl:i=0∨i=1∨i=2:=by omega
  ·rw [ay (by omega)];simp [ay (show 8<b.length by omega)]
  ·rw [ay (by omega)];simp [ay (show 9<b.length by omega)]
  ·rw [ay (by omega)];simp [ay (show 10<b.length by omega)]
 ·rw [dm (by rw [aA];omega),dm (by simp;omega)]
theorem py {d:List Part} {at':Nat} {b0:Part} (b:d[at']?=some b0) (h:b0.stamp=0∨b0.i≠0∨b0.ok=false):iS d at'=none:=by
 by_cases hs:b0.stamp=0
 ·unfold iS
  rw [b]
  simp only
  rw [aw (fun hc=>hc.1 hs)]
 ·by_cases j:0<b0.of
  ·refine qv b j ?_
   unfold nD
   rw [cC,b]
   rcases h with h | h | h
   ·exact absurd h hs
   ·simp [h]
   ·simp [h]
  ·unfold iS
   rw [b]
   simp only
   rw [aw (fun hc=>j hc.2.1)]
theorem FL {d:List Part} {at' k s n:Nat} {b:Part} (j:d[at'+k]?=some b) (h:b.stamp≠s∨b.i≠k∨b.of≠n∨b.ok=false):nD d at' s n k=false:=by
 unfold nD
 rw [j]
 simp only
 rcases h with h | h | h | h <;> simp [h]
theorem sL {rows:List (List UInt8)} (h:∀ b∈rows,b.length=64) {at' k:Nat} (hk:k≤300):(gA (rows.map parseSec) at' k).length≤100000:=by
 have key:∀ k,(gA (rows.map parseSec) at' k).length≤64*k:=by
  intro k
  induction k with
  | zero=>simp [gA]
  | succ k ih =>
   unfold gA at ih⊢
   rw [List.range_succ,eA,ar]
   have h1:([k].flatMap fun i=>((rows.map parseSec).getD (at'+i) default).data).length≤64:=by
    simp only [cQ,List.flatMap_nil,cN,aP,bh]
    cases d:rows[at'+k]? with
    | none=>simp [default]
    | some b =>
     have:=h b (aZ d)
     simp only [dX,bT]
     unfold parseSec
     simp only [aA,a8]
     omega
   omega
 have:=key k
 omega
theorem vr {d:List Part} {at' k:Nat} {b:Part} {l:List UInt8} (h:d[at'+k]?=some b) (hl:b.data=l):gA d at' (k+1)=gA d at' k++l:=by
 unfold gA
 rw [List.range_succ,eA]
 congr 1
 simp [h,hl]
theorem xQ {w:World} {b off:Nat} {x z n:Int} {v:Value} {T:TypeId} {fz:Nat×Nat} (h:w.heap[b]?=some (.cells #[.int .u64 x,v,.int .i64 z] T fz)) (d:∀ n,v≠.int .u8 n) (hc:w.cell? ⟨b,off,none⟩=some (.int .u8 n)):False:=by
 have h1:=af w b off _ _ _ h
 rw [hc] at h1
 match off with
 | 0=>simp at h1
 | 1=>simp at h1;exact d n h1.symm
 | 2=>simp at h1
 | k+3=>simp at h1
theorem yh (F:Nat→Prop) (rv:Value) (rows:List (List UInt8)) (at':Nat) (w:World) (j3:RowsAt w F rv rows) (h64:∀ b∈rows,b.length=64) (hlen:rows.length≤1000) (h3:at'≤1000) :
  Calls Tryz.prog 158 #[rv,.int .i64 (at':Nat)] w fun e w'=>Below w.heap.size w w'∧∃ (st tt:Nat) (dv:Value) (data:List UInt8),e = .returned (.tuple #[.agg #[.int .u64 (st:Nat),dv,.int .i64 (tt:Nat)],.bool (iS (rows.map parseSec) at').isSome])∧BytesAt w' dv data∧(∀ b,dv.ownBlock=some b→w.heap.size≤b∧b<w'.heap.size)∧
   ∀ x,iS (rows.map parseSec) at'=some x→x=⟨st,data,tt⟩:=by
 obtain ⟨g,cap,rfl,e6,a0⟩:=j3.get
 obtain ⟨d,hd⟩:∃ d,d=rows.map parseSec:=⟨_,rfl⟩
 have f9:d.length=rows.length:=by rw [hd,aH]
 have HD:=ae hd
 have HR:=ae j3
 have HG:=ae a0
 have d4:=ae h64
 rw [←hd]
 clear hd j3 a0 h64 e6
 go_enter Tryz.func158,Tryz.ntmps158
 go_wp2
 have d5:Below w.heap.size w ((w.alloc (.cells #[.int .u64 0,.slice none 0 0,.int .i64 0] 278)).alloc (.cells #[.int .u64 0,.slice none 0 0,.int .i64 0] 278)):=((Below.refl _ w).alloc (ah _) _).alloc (by simp) _
 have R0:=fQ _ (.cells #[.int .u64 0,.slice none 0 0,.int .i64 0] 278) (fL w (.cells #[.int .u64 0,.slice none 0 0,.int .i64 0] 278))
 have R1:=fL (w.alloc (.cells #[.int .u64 0,.slice none 0 0,.int .i64 0] 278)) (.cells #[.int .u64 0,.slice none 0 0,.int .i64 0] 278)
 rw [ax] at R1
 have cl:Hid (Hk w d at' 0 1 ((w.alloc (.cells #[.int .u64 0,.slice none 0 0,.int .i64 0] 278)).alloc (.cells #[.int .u64 0,.slice none 0 0,.int .i64 0] 278))):=ae ⟨0,.slice none 0 0,R1,OwnS.nil _ _ _,CellsOf.nil _ _,d5,R0,.inl ⟨rfl,rfl⟩,.inl (by omega),by omega⟩
 clear d5 R0 R1
 go_loopw [7,8] (fun p i wr=>∃ k P:Nat,p = .int .i64 (P:Int)∧i = .int .i64 (k:Int)∧Hk w d at' k P wr) (fun _ i _=>300-(intOf i).toNat)
 case atStart=>exact ⟨0,1,rfl,rfl,cl.out⟩
 case round =>
  obtain ⟨k,P,rfl,rfl,st,dv,r1,r2,r3,r4,r5,r6,r7,r8⟩:=hrel
  have gg:=ae r1
  have bc:=ae r2
  have gl:=ae r3
  have bv:=ae r4
  have gn:=ae r5
  have co:=ae r6
  have e8:=r4.size
  have cp:=r4.size
  have h4:=fI r1
  have h5:=fI r5
  obtain ⟨l,m,rfl⟩:=r2.shape
  have t0:wr.cell? ⟨w.heap.size+1,0,none⟩=some (.int .u64 (st:Nat)):=af _ _ 0 _ _ _ r1
  have t1:wr.cell? ⟨w.heap.size+1,1,none⟩=some (.slice l (gA d at' k).length m):=af _ _ 1 _ _ _ r1
  have t2:wr.cell? ⟨w.heap.size+1,2,none⟩=some (.int .i64 0):=af _ _ 2 _ _ _ r1
  have go:=ao _ _ 1 _ _ r1
  have gp:=ao _ _ 2 _ _ r1
  have gq:=ao _ _ 0 _ _ r1
  have u0:wr.cell? ⟨w.heap.size,0,none⟩=some (.int .u64 0):=af _ _ 0 _ _ _ r5
  have u1:wr.cell? ⟨w.heap.size,1,none⟩=some (.slice none 0 0):=af _ _ 1 _ _ _ r5
  have u2:wr.cell? ⟨w.heap.size,2,none⟩=some (.int .i64 0):=af _ _ 2 _ _ _ r5
  have gs:=ao _ _ 0 _ _ r5
  have gt:=ao _ _ 1 _ _ r5
  have gu:=ao _ _ 2 _ _ r5
  clear r1 r2 r3 r4 r5 r6 cl
  by_cases d6:k<P
  ·have g1:(k:Int)<P:=by omega
   by_cases gv:rows.length≤at'+k
   ·have g2:(rows.length:Int)≤(at':Int)+k:=by omega
    have d7:iS d at'=none:=Ei co.out d6 (dm (by rw [f9];exact gv))
    have r:=ae d7
    clear d7
    go_wp2
    obtain ⟨D,I,Q⟩:=ot rfl bv.out bc.out (.int .u64 (st:Nat)) (.slice l (gA d at' k).length m) (.int .i64 0)
    refine aK (v := .tuple #[.agg #[.int .u64 (st:Nat),.slice l (gA d at' k).length m,.int .i64 0],.bool false]) (by simp [results,Tryz.results158,go_sem,u0,u1,u2]) rfl ⟨D,st,0,_,_,by rw [r.out];rfl,I,Q,fun x s=>by rw [r.out] at s;cases s⟩
   ·obtain ⟨b,j1⟩:∃ b,rows[at'+k]?=some b:=⟨_,ay (by omega)⟩
    have bS:b.length=64:=d4.out b (aZ j1)
    have gz:=(HR.out.fW e8 fun j C ty fz U _ _=>bv.out.block j (fI U)).get
    obtain ⟨g',cap',e',-,a0⟩:=gz
    obtain ⟨rfl,-,rfl⟩:=Value.slice.inj e'
    obtain ⟨g0,off,u,rfl,aE,bX⟩:=a0 _ _ j1
    have g2:(at':Int)+k<(rows.length:Int):=by omega
    have h6:¬(rows.length:Int)≤(at':Int)+k:=by omega
    have hH:((at':Int)+k).toNat=at'+k:=by omega
    obtain ⟨ua,uc,rfl,-,-⟩:=bX.1.opened
    have bt:=ae bX
    have HB:=ae j1
    have dp:=ae aE
    have h7:=fP aE
    clear a0 e' bX j1
    rw [bS] at aE
    obtain ⟨x,y,z,cq,d8⟩:=Em bS
    have d9:d[at'+k]?=some (parseSec b):=by rw [HD.out,bh,HB.out];rfl
    have bi:=ae d9
    have M:=ae d8
    have e9:=ae cq
    have h8:=z.toNat_lt
    have h9:=x.toNat_lt
    have ib:=y.toNat_lt
    clear d9 d8 cq
    obtain ⟨q,G,g4⟩:∃ q G,ua=some ⟨q,G,none⟩:=by
     obtain ⟨a',c',e',-,s⟩:=bt.out.1.opened
     obtain ⟨b',o',g5,-⟩:=s 0 (by omega)
     obtain ⟨rfl,-,rfl⟩:=Value.slice.inj e'
     exact ⟨b',o',g5⟩
    subst g4
    have eb:Hid (b.length≤uc∧∃ C fz,wr.heap[q]?=some (.cells C 5 fz)):=ae (by
     obtain ⟨a',c',e',g6,-⟩:=bt.out.1.opened
     obtain ⟨-,-,rfl⟩:=Value.slice.inj e'
     exact ⟨g6,bt.out.2.1 q rfl⟩)
    go_wp2_with fail
    have b7:=fL wr (.cells #[.slice (some ⟨q,G,none⟩) 64 uc,.int .i64 0,.int .i64 0,.pointer none] 211)
    have ec:Hid (Below wr.heap.size wr (wr.alloc (.cells #[.slice (some ⟨q,G,none⟩) 64 uc,.int .i64 0,.int .i64 0,.pointer none] 211))):=ae ((Below.refl _ wr).alloc (ah _) _)
    have g7:Hid (nt (wr.alloc (.cells #[.slice (some ⟨q,G,none⟩) 64 uc,.int .i64 0,.int .i64 0,.pointer none] 211)) wr.heap.size q G uc 0 0 b):=ae (by
     refine ⟨by rw [bS];exact b7,bt.out.1.below ec.out,?_,eb.out.1,by omega⟩
     obtain ⟨C,fz,kb⟩:=eb.out.2
     have:=fI kb
     omega)
    refine (Ed wr.heap.size q G uc 0 0 b _ g7.out (by omega)).mono ?_
    rintro e w5 ⟨rfl,cr,ed⟩
    have eg:iL ((b.drop 0).take 8)=(parseSec b).stamp:=rfl
    rw [eg]
    have g8:Hid (Ext (fun j=>j=wr.heap.size) wr w5):=ae ((Ext.fM ec.out).trans ed)
    have fd:=ae cr
    obtain ⟨S,kd⟩:∃ S,S=(parseSec b).stamp:=⟨_,rfl⟩
    rw [←kd]
    have HS:=ae kd
    clear cr ed eg b7 kd aE
    go_wp2_with fail
    refine (ze wr.heap.size q G uc 0 8 3 b w5 fd.out (by omega) (by omega) (by omega)).mono ?_
    rintro e V ⟨rfl,b1,ej⟩
    have ct:=b1.part 8 (n:=3) (by omega)
    rw [e9.out] at ct
    have N:Hid (Ext (fun j=>j=wr.heap.size) wr V):=ae (g8.out.trans ej)
    have ap:=ae b1
    obtain ⟨ha,hc,g9,hb,bw⟩:=ct.opened
    cases g9
    obtain ⟨ii,io,e0,ab⟩:=bw 0 (by simp)
    obtain ⟨hN,hO,D,b8⟩:=bw 1 (by simp)
    obtain ⟨hD,hE,I,bx⟩:=bw 2 (by simp)
    cases e0
    cases D
    cases I
    simp only [cn,ee,cC] at ab b8 bx
    have ip:=ae bw
    have el:=N.out.cell (p:=⟨w.heap.size+1,0,none⟩) (by show w.heap.size+1≠wr.heap.size;omega) t0
    have ca:=N.out.cell (p:=⟨w.heap.size+1,1,none⟩) (by show w.heap.size+1≠wr.heap.size;omega) t1
    have em:=N.out.cell (p:=⟨w.heap.size+1,2,none⟩) (by show w.heap.size+1≠wr.heap.size;omega) t2
    have X:=ae (N.out.at (by show w.heap.size+1≠wr.heap.size;omega) gg.out)
    have av:=ae (N.out.at (by show w.heap.size≠wr.heap.size;omega) gn.out)
    have fi:=ao _ _ 0 _ _ X.out
    have fk:=ao _ _ 1 _ _ X.out
    have fl:=ao _ _ 2 _ _ X.out
    have bk:=N.out.cell (p:=⟨w.heap.size,0,none⟩) (by show w.heap.size≠wr.heap.size;omega) u0
    have bl:=N.out.cell (p:=⟨w.heap.size,1,none⟩) (by show w.heap.size≠wr.heap.size;omega) u1
    have bn:=N.out.cell (p:=⟨w.heap.size,2,none⟩) (by show w.heap.size≠wr.heap.size;omega) u2
    have fn:=ao _ _ 0 _ _ av.out
    have fo:=ao _ _ 1 _ _ av.out
    have fp:=ao _ _ 2 _ _ av.out
    have hf:=N.out.size
    have a1:Hid (Below w.heap.size w V):=ae (bv.out.trans (N.out.below (aI cp (ah _)) fun j U e=>by have e':j=wr.heap.size:=e;omega))
    have W:Hid (OwnS V (w.heap.size+2) 1 (.slice l (gA d at' k).length m) (gA d at' k).length (u8s (gA d at' k))):=ae (bc.out.frame N.out.size fun j e U=>N.out.block j U (by show j≠wr.heap.size;omega))
    have en:Hid (CellsOf V (.slice l (gA d at' k).length m) 5):=ae (gl.out.frame fun j e U=>N.out.block j U (by show j≠wr.heap.size;omega))
    have er:Hid (q<w.heap.size):=ae (by
     obtain ⟨i0,i1,hg,-,ds⟩:=HR.out.get
     obtain ⟨hh,-,-⟩:=Value.slice.inj hg
     obtain ⟨i2,i3,u',eC,eD,hi⟩:=ds _ _ HB.out
     rw [←hh] at eC
     cases eC
     have eS:=(bv.out.cell (p:=⟨g0,off+(at'+k),none⟩) (fP eD)).trans eD
     rw [dp.out] at eS
     cases eS
     obtain ⟨C,fz,kb⟩:=hi.2.1 q rfl
     exact fI kb)
    have eT:Hid ((gA d at' k).length≤100000):=ae (by rw [HD.out];exact sL d4.out (by omega))
    have i4:q<V.heap.size:=fP ab
    have hP:q≠w.heap.size:=fun e=>by rw [e] at ab;exact xQ av.out (fun n e=>by cases e) ab
    have hQ:q≠w.heap.size+1:=fun e=>by rw [e] at ab;exact xQ X.out (fun n e=>by cases e) ab
    clear t0 t1 t2 gq go gp u0 u1 u2 gs gt gu ct bw b1 ej hb
    rcases co.out with ⟨cu,eV⟩ | ⟨hj,b0,q0,q1,q2,q3,q4⟩
    ·have d2:((k:Int)==0)=true:=by simp;omega
     have fr:(k:Int)=0:=by omega
     have cB:=ae cu
     have hR:=ae eV
     have cb:Hid (d[at']?=some (parseSec b)):=ae (by have h1:=bi.out;rw [cu,cC] at h1;exact h1)
     clear cu eV fr
     have i5:(y.toNat:Int)<256:=by omega
     have i6:IntKind.i64.wrap (y.toNat:Int)=(y.toNat:Int):=IntWalk.i64_in _ (by omega)
     go_wp2
     go_region
     obtain ⟨J,bo⟩:∃ J,J=(V.setCell ⟨w.heap.size+1,0,none⟩ (.int .u64 (S:Nat))).drew:=⟨_,rfl⟩
     have E:∀ j,j≠w.heap.size+1→J.heap[j]?=V.heap[j]?:=fun j U=>by rw [bo];exact Below.heap_setCell V ⟨w.heap.size+1,0,none⟩ _ j U
     have hk:V.heap.size≤J.heap.size:=by rw [bo];show V.heap.size≤(V.setCell ⟨w.heap.size+1,0,none⟩ (.int .u64 (S:Nat))).heap.size;rw [size_setCell];exact ah _
     have Y:Hid (J.heap[w.heap.size+1]?=some (.cells #[.int .u64 (S:Nat),.slice l (gA d at' k).length m,.int .i64 0] 278 (0,0))):=ae (by rw [bo];exact heap_setCell _ _ 0 _ X.out)
     have Z:=ae ((E w.heap.size (by omega)).trans av.out)
     have fB:Hid (nt J wr.heap.size q G uc 8 11 b):=ae ⟨(E _ (by omega)).trans ap.out.row,fR.frame ap.out.bytes (fun j e _=>E j (by cases e;omega)),ap.out.ne,ap.out.cap,ap.out.len⟩
     have bz:Hid (OwnS J (w.heap.size+2) 1 (.slice l (gA d at' k).length m) (gA d at' k).length (u8s (gA d at' k))):=ae (W.out.frame hk fun j e _=>E j (by have:=W.out.fU j e;omega))
     have hl:Hid (CellsOf J (.slice l (gA d at' k).length m) 5):=ae (en.out.frame fun j e _=>E j (by have:=W.out.fU j e;omega))
     have ce:Hid (Below w.heap.size w J):=ae (by rw [bo];exact (a1.out.setCell (p:=⟨w.heap.size+1,0,none⟩) (by simp) _).drew)
     rw [←bo]
     have hn:J.cell? ⟨w.heap.size+1,0,none⟩=some (.int .u64 (S:Nat)):=af _ _ 0 _ _ _ Y.out
     have c0:J.cell? ⟨w.heap.size+1,1,none⟩=some (.slice l (gA d at' k).length m):=af _ _ 1 _ _ _ Y.out
     have ho:J.cell? ⟨w.heap.size+1,2,none⟩=some (.int .i64 0):=af _ _ 2 _ _ _ Y.out
     have c1:J.cell? ⟨w.heap.size,0,none⟩=some (.int .u64 0):=af _ _ 0 _ _ _ Z.out
     have c2:J.cell? ⟨w.heap.size,1,none⟩=some (.slice none 0 0):=af _ _ 1 _ _ _ Z.out
     have c3:J.cell? ⟨w.heap.size,2,none⟩=some (.int .i64 0):=af _ _ 2 _ _ _ Z.out
     have hS:=ao _ _ 0 _ _ Z.out
     have hT:=ao _ _ 1 _ _ Z.out
     have hU:=ao _ _ 2 _ _ Z.out
     have hV:=ao _ _ 1 _ _ Y.out
     have kk:J.cell? ⟨q,G+8,none⟩=some (.int .u8 (x.toNat:Int)):=(aU (w:=V) (E q (by omega))).trans ab
     have hr:J.cell? ⟨q,G+8+1,none⟩=some (.int .u8 (y.toNat:Int)):=(aU (w:=V) (E q (by omega))).trans b8
     have kl:J.cell? ⟨q,G+8+2,none⟩=some (.int .u8 (z.toNat:Int)):=(aU (w:=V) (E q (by omega))).trans bx
     have hW:=fI Y.out
     have hX:q<J.heap.size:=fP kk
     have f0:wr.heap.size≤J.heap.size:=by omega
     clear bo E el ca em fi fk fl bk bl bn fn fo fp ab b8 bx
     by_cases bD:S=0
     ·have b2:((S:Int)==0)=true:=by simp;omega
      have ht:=ae bD
      clear bD
      have r:Hid (iS d at'=none):=ae (py cb.out (.inl (by rw [←HS.out,ht.out])))
      go_wp2
      obtain ⟨D,I,Q⟩:=ot rfl ce.out bz.out (.int .u64 (S:Nat)) (.slice l (gA d at' k).length m) (.int .i64 0)
      refine aK (v := .tuple #[.agg #[.int .u64 (S:Nat),.slice l (gA d at' k).length m,.int .i64 0],.bool false]) (by simp [results,Tryz.results158,go_sem,c1,c2,c3]) rfl ⟨D,S,0,_,_,by rw [r.out];rfl,I,Q,fun x s=>by rw [r.out] at s;cases s⟩
     ·have b2:((S:Int)==0)=false:=by simp;omega
      by_cases a2:x.toNat=k
      ·have b3:((x.toNat:Int) != (k:Int))=false:=by simp;omega
       have c4:=ae a2
       clear a2
       by_cases hu:z.toNat≤53
       ·have b4:¬(53:Int)<(z.toNat:Int):=by omega
        have f1:q<w.heap.size:=er.out
        have a3:Hid (∀ j,(Value.slice l (gA d at' k).length m).ownBlock=some j→w.heap.size+2≤j):=ae bz.out.fU
        have a4:Hid (∀ j,(Value.slice l (gA d at' k).length m).ownBlock=some j→j<wr.heap.size):=ae bc.out.gZ
        have hv:IntKind.i64.wrap (z.toNat:Int)=(z.toNat:Int):=IntWalk.i64_in _ (by omega)
        have a5:=kl
        go_wp2
        trace_state
        refine iz (n:=10) (S:=(fun w'=>w'.cell? ⟨w.heap.size+1,1,none⟩=some (.slice l (gA d at' k).length m)∧w'.cell? ⟨q,G+8+2,none⟩=some (.int .u8 (z.toNat:Int)))) (by kernel_rfl) (by kernel_rfl) rfl (by first | exact ⟨c0,a5⟩ | exact ⟨ag,ak⟩) ?_
        intro f2
        simp only [cK,cg,cA,cL,bA,ch,bd,bu,bV,aQ,aX]
        refine wpAnyH_take (i:=0) (v := ?_) rfl (by kernel_rfl) (by kernel_rfl) (by kernel_rfl) (fun _ _ _ h=>h) (Or.inl ⟨by rfl,?_⟩) (by assumption) ?_
        rotate_left 1
        ·(intro w o;(try dsimp only at o);go_simp;(try with_reducible rfl))
        try simp only [Act.put,ai,aj]
        refine wpAnyH_take (i:=1) (v := ?_) rfl (by kernel_rfl) (by kernel_rfl) (by kernel_rfl) (fun _ _ _ h=>h) (Or.inl ⟨by rfl,?_⟩) (by assumption) ?_
        rotate_left 1
        ·(intro w o;(try dsimp only at o);go_simp;(try with_reducible rfl))
        try simp only [Act.put,ai,aj,aq]
        refine wpAnyH_take (i:=2) (v := ?_) rfl (by kernel_rfl) (by kernel_rfl) (by kernel_rfl) (fun _ _ _ h=>h) (Or.inl ⟨by rfl,?_⟩) (by assumption) ?_
        rotate_left 1
        ·(intro w o;(try dsimp only at o);go_simp;(try with_reducible rfl))
        try simp only [Act.put,ai,aj,aq]
        refine wpAnyH_take (i:=3) (v := ?_) rfl (by kernel_rfl) (by kernel_rfl) (by kernel_rfl) (fun _ _ _ h=>h) (Or.inl ⟨by rfl,?_⟩) (by assumption) ?_
        rotate_left 1
        ·(intro w o;(try dsimp only at o);go_simp;(try with_reducible rfl))
        try simp only [Act.put,ai,aj,aq]
        refine wpAnyH_take (i:=4) (v := ?_) rfl (by kernel_rfl) (by kernel_rfl) (by kernel_rfl) (fun _ _ _ h=>h) (Or.inl ⟨by rfl,?_⟩) (by assumption) ?_
        rotate_left 1
        ·(intro w o;(try dsimp only at o);go_simp;(try with_reducible rfl))
        try simp only [Act.put,ai,aj,aq]
        refine wpAnyH_take (i:=5) (v := ?_) rfl (by kernel_rfl) (by kernel_rfl) (by kernel_rfl) (fun _ _ _ h=>h) (Or.inl ⟨by rfl,?_⟩) (by assumption) ?_
        rotate_left 1
        ·(intro w o;(try dsimp only at o);go_simp;(try with_reducible rfl))
        try simp only [Act.put,ai,aj,aq]
        refine wpAnyH_take (i:=6) (v := ?_) rfl (by kernel_rfl) (by kernel_rfl) (by kernel_rfl) (fun _ _ _ h=>h) (Or.inl ⟨by rfl,?_⟩) (by assumption) ?_
        rotate_left 1
        ·(intro w o;(try dsimp only at o);go_simp;(try with_reducible rfl))
        try simp only [Act.put,ai,aj,aq]
        refine wpAnyH_ready (rs:=[7]) (by kernel_rfl) (by simp) ?_
        refine AllReadyH.cons rfl ?_ AllReadyH.nil
        intro K' hK'
        go_simp;go_at_call 121;refine (AY wr.heap.size q G uc 8 11 z.toNat b _ fB.out.drew (by omega) (by omega)).mono ?_;rintro e w7 ⟨⟨pv,rfl,bH⟩,b6,O⟩;have B:Hid (Ext (fun j=>j=wr.heap.size) J w7):=ae ⟨O.os,O.tape,O.output,O.size,O.block⟩;have ag:w7.cell? ⟨w.heap.size+1,1,none⟩=some (.slice l (gA d at' k).length m):=B.out.cell (p:=⟨w.heap.size+1,1,none⟩) (by show w.heap.size+1≠wr.heap.size;omega) c0;have ak:w7.cell? ⟨q,G+8+2,none⟩=some (.int .u8 (z.toNat:Int)):=B.out.cell (p:=⟨q,G+8+2,none⟩) (by show q≠wr.heap.size;omega) a5;have c5:=ae bH;clear b6 O bH;refine hK'.out _ _ ⟨ag,ak⟩ ?_
        clear hK' K'
        intro f3
        try simp only [ai,aj,aq]
        refine wpAnyH_ready (rs:=[8]) (by kernel_rfl) (by simp) ?_
        refine AllReadyH.cons rfl ?_ AllReadyH.nil
        intro K' hK'
        refine lp rfl (.tmp 77) (.tmp 83) rfl (w.heap.size+2) (.slice l (gA d at' k).length m) (gA d at' k).length (gA d at' k) rfl (by exact bz.out.frame B.out.size fun j e U=>B.out.block j U (by show j≠wr.heap.size;have:=a4.out j e;omega)) (by exact hl.out.frame fun j e U=>B.out.block j U (by show j≠wr.heap.size;have:=a4.out j e;omega)) ((b.drop 11).take z.toNat) (by exact c5.out) (by have:=eT.out;rw [aA];omega) (by have:=B.out.size;omega) ?_;intro v8 w8 R al a7 bI;obtain ⟨bL,bM,rfl⟩:=R.shape;have bN:=ae bI;have bO:=ae R;have c6:=ae a7;have c7:=ae al;have f4:=B.out.size;have a9:w8.cell? ⟨w.heap.size+1,1,none⟩=some (.slice l (gA d at' k).length m):=(aU (w:=w7) (al.block (w.heap.size+1) (by omega) (fun e=>by have:=a3.out _ e.symm;omega))).trans ag;have bP:w8.cell? ⟨q,G+8+2,none⟩=some (.int .u8 (z.toNat:Int)):=(aU (w:=w7) (al.block q (by omega) (fun e=>by have:=a3.out _ e.symm;omega))).trans ak;clear R al a7 bI;refine hK'.out _ _ ⟨a9,bP⟩ ?_
        clear hK' K'
        intro f5
        try simp only [Act.put,ai,aj,aq]
        refine wpAnyH_take (i:=9) (v := ?_) rfl (by kernel_rfl) (by kernel_rfl) (by kernel_rfl) (fun _ _ _ h=>h) (Or.inl ⟨by rfl,?_⟩) (by assumption) ?_
        rotate_left 1
        ·(intro w o;(try dsimp only at o);go_simp;(try with_reducible rfl))
        try simp only [Act.put,ai,aj,aq]
        refine wpAnyH_done (by kernel_rfl) ?_ _
        show Oper.wp _ _ _ _ _ _
        have D:=a9
        have c8:=ao _ _ 1 _ _ Y.out
        have aa:Hid (w8.heap[w.heap.size+1]?=some (.cells #[.int .u64 (S:Nat),.slice l (gA d at' k).length m,.int .i64 0] 278 (0,0))):=ae ((c7.out.block (w.heap.size+1) (by omega) (fun e=>by have:=a3.out _ e.symm;omega)).trans (B.out.at (by show w.heap.size+1≠wr.heap.size;omega) Y.out))
        have hw:=ao _ _ 1 _ _ aa.out
        have hx:=fI aa.out
        have c9:Hid (∀ j,(Value.slice bL _ bM).ownBlock=some j→w.heap.size+2≤j):=ae bO.out.fU
        clear c8 ag ak bP a9 hn c0 ho kk hr kl a5
        go_wp2
        have am:((b.drop 11).take z.toNat).length=z.toNat:=by rw [aA,a8];omega
        have da:gA d at' (k+1)=gA d at' k++(b.drop 11).take z.toNat:=vr bi.out (by rw [M.out])
        refine ⟨⟨k+1,y.toNat,rfl,by go_num,S,.slice bL ((gA d at' k).length+z.toNat) bM,heap_setCell _ _ 1 _ aa.out,?_,?_,?_,?_,.inr ⟨by omega,parseSec b,cb.out,by rw [M.out],HS.out,bD,fun i kf => ?_⟩,.inr (by have:=cB.out;omega),by omega⟩,by simp [intOf];omega⟩
        ·rw [da,ar,am]
         have h1:=bO.out
         rw [am] at h1
         exact h1.frame (by rw [size_setCell];exact ah _) fun j e _=>Below.heap_setCell w8 ⟨w.heap.size+1,1,none⟩ _ j (by show j≠w.heap.size+1;have:=h1.fU j e;omega)
        ·have h1:=c6.out
         rw [am] at h1
         exact h1.frame fun j e _=>Below.heap_setCell w8 ⟨w.heap.size+1,1,none⟩ _ j (by show j≠w.heap.size+1;have:=c9.out j (by rw [am];exact e);omega)
        ·exact ((ce.out.trans (B.out.below (aI cp f0) fun j U e=>by have e':j=wr.heap.size:=e;omega)).trans (bN.out.mono (by omega))).setCell (p:=⟨w.heap.size+1,1,none⟩) (by simp) _
        ·exact (Below.heap_setCell w8 ⟨w.heap.size+1,1,none⟩ _ w.heap.size (by show w.heap.size≠w.heap.size+1;omega)).trans ((bN.out.block _ (by omega)).trans (B.out.at (by show w.heap.size≠wr.heap.size;omega) Z.out))
        ·obtain rfl:i=k:=by have:=cB.out;omega
         exact nE.2 ⟨_,bi.out,rfl,by rw [M.out];exact c4.out,rfl,by rw [M.out];simp;omega⟩
       ·have b4:(53:Int)<(z.toNat:Int):=by omega
        have r:Hid (iS d at'=none):=ae (py cb.out (.inr (.inr (by rw [M.out];simp;omega))))
        go_wp2
        obtain ⟨D,I,Q⟩:=ot rfl ce.out bz.out (.int .u64 (S:Nat)) (.slice l (gA d at' k).length m) (.int .i64 0)
        refine aK (v := .tuple #[.agg #[.int .u64 (S:Nat),.slice l (gA d at' k).length m,.int .i64 0],.bool false]) (by simp [results,Tryz.results158,go_sem,c1,c2,c3]) rfl ⟨D,S,0,_,_,by rw [r.out];rfl,I,Q,fun x s=>by rw [r.out] at s;cases s⟩
      ·have b3:((x.toNat:Int) != (k:Int))=true:=by simp;omega
       have r:Hid (iS d at'=none):=ae (py cb.out (.inr (.inl (by rw [M.out];show x.toNat≠0;rw [←cB.out];exact a2))))
       go_wp2
       obtain ⟨D,I,Q⟩:=ot rfl ce.out bz.out (.int .u64 (S:Nat)) (.slice l (gA d at' k).length m) (.int .i64 0)
       refine aK (v := .tuple #[.agg #[.int .u64 (S:Nat),.slice l (gA d at' k).length m,.int .i64 0],.bool false]) (by simp [results,Tryz.results158,go_sem,c1,c2,c3]) rfl ⟨D,S,0,_,_,by rw [r.out];rfl,I,Q,fun x s=>by rw [r.out] at s;cases s⟩
    ·have e1:=ae q0
     have cf:=ae q1
     have ci:=ae q2
     have hy:=ae q4
     have h0:¬k=0:=by omega
     have d2:((k:Int)==0)=false:=by simp;omega
     have ba:Hid (((parseSec b).stamp≠b0.stamp∨(parseSec b).i≠k∨(parseSec b).of≠b0.of∨(parseSec b).ok=false)→iS d at'=none):=ae fun h=>qv e1.out (by rw [←cf.out];exact d6) (FL bi.out h)
     clear q0 q1 q2 q4
     by_cases bD:S=0
     ·have b2:((S:Int)==0)=true:=by simp;omega
      have r:Hid (iS d at'=none):=ae (ba.out (.inl (by rw [←HS.out,←ci.out,bD];exact dx q3)))
      go_wp2
      obtain ⟨D,I,Q⟩:=ot rfl a1.out W.out (.int .u64 (st:Nat)) (.slice l (gA d at' k).length m) (.int .i64 0)
      refine aK (v := .tuple #[.agg #[.int .u64 (st:Nat),.slice l (gA d at' k).length m,.int .i64 0],.bool false]) (by simp [results,Tryz.results158,go_sem,bk,bl,bn]) rfl ⟨D,st,0,_,_,by rw [r.out];rfl,I,Q,fun x s=>by rw [r.out] at s;cases s⟩
     ·have b2:((S:Int)==0)=false:=by simp;omega
      by_cases e2:S=st
      ·obtain rfl:=e2
       by_cases a2:x.toNat=k
       ·have b3:((x.toNat:Int) != (k:Int))=false:=by simp;omega
        have c4:=ae a2
        clear a2
        by_cases dc:y.toNat=P
        ·have f7:((y.toNat:Int) != (P:Int))=false:=by simp;omega
         have hz:=ae dc
         clear dc
         by_cases hu:z.toNat≤53
         ·have b4:¬(53:Int)<(z.toNat:Int):=by omega
          have f1:q<w.heap.size:=er.out
          have a3:Hid (∀ j,(Value.slice l (gA d at' k).length m).ownBlock=some j→w.heap.size+2≤j):=ae W.out.fU
          have a4:Hid (∀ j,(Value.slice l (gA d at' k).length m).ownBlock=some j→j<wr.heap.size):=ae bc.out.gZ
          have hv:IntKind.i64.wrap (z.toNat:Int)=(z.toNat:Int):=IntWalk.i64_in _ (by omega)
          have a5:V.cell? ⟨q,G+8+2,none⟩=some (.int .u8 (z.toNat:Int)):=bx
          go_wp2
          trace_state
          refine iz (n:=10) (S:=(fun w'=>w'.cell? ⟨w.heap.size+1,1,none⟩=some (.slice l (gA d at' k).length m)∧w'.cell? ⟨q,G+8+2,none⟩=some (.int .u8 (z.toNat:Int)))) (by kernel_rfl) (by kernel_rfl) rfl (by first | exact ⟨ca,a5⟩ | exact ⟨ag,ak⟩) ?_
          intro f2
          simp only [cK,cg,cA,cL,bA,ch,bd,bu,bV,aQ,aX]
          refine wpAnyH_take (i:=0) (v := ?_) rfl (by kernel_rfl) (by kernel_rfl) (by kernel_rfl) (fun _ _ _ h=>h) (Or.inl ⟨by rfl,?_⟩) (by assumption) ?_
          rotate_left 1
          ·(intro w o;(try dsimp only at o);go_simp;(try with_reducible rfl))
          try simp only [Act.put,ai,aj]
          refine wpAnyH_take (i:=1) (v := ?_) rfl (by kernel_rfl) (by kernel_rfl) (by kernel_rfl) (fun _ _ _ h=>h) (Or.inl ⟨by rfl,?_⟩) (by assumption) ?_
          rotate_left 1
          ·(intro w o;(try dsimp only at o);go_simp;(try with_reducible rfl))
          try simp only [Act.put,ai,aj,aq]
          refine wpAnyH_take (i:=2) (v := ?_) rfl (by kernel_rfl) (by kernel_rfl) (by kernel_rfl) (fun _ _ _ h=>h) (Or.inl ⟨by rfl,?_⟩) (by assumption) ?_
          rotate_left 1
          ·(intro w o;(try dsimp only at o);go_simp;(try with_reducible rfl))
          try simp only [Act.put,ai,aj,aq]
          refine wpAnyH_take (i:=3) (v := ?_) rfl (by kernel_rfl) (by kernel_rfl) (by kernel_rfl) (fun _ _ _ h=>h) (Or.inl ⟨by rfl,?_⟩) (by assumption) ?_
          rotate_left 1
          ·(intro w o;(try dsimp only at o);go_simp;(try with_reducible rfl))
          try simp only [Act.put,ai,aj,aq]
          refine wpAnyH_take (i:=4) (v := ?_) rfl (by kernel_rfl) (by kernel_rfl) (by kernel_rfl) (fun _ _ _ h=>h) (Or.inl ⟨by rfl,?_⟩) (by assumption) ?_
          rotate_left 1
          ·(intro w o;(try dsimp only at o);go_simp;(try with_reducible rfl))
          try simp only [Act.put,ai,aj,aq]
          refine wpAnyH_take (i:=5) (v := ?_) rfl (by kernel_rfl) (by kernel_rfl) (by kernel_rfl) (fun _ _ _ h=>h) (Or.inl ⟨by rfl,?_⟩) (by assumption) ?_
          rotate_left 1
          ·(intro w o;(try dsimp only at o);go_simp;(try with_reducible rfl))
          try simp only [Act.put,ai,aj,aq]
          refine wpAnyH_take (i:=6) (v := ?_) rfl (by kernel_rfl) (by kernel_rfl) (by kernel_rfl) (fun _ _ _ h=>h) (Or.inl ⟨by rfl,?_⟩) (by assumption) ?_
          rotate_left 1
          ·(intro w o;(try dsimp only at o);go_simp;(try with_reducible rfl))
          try simp only [Act.put,ai,aj,aq]
          refine wpAnyH_ready (rs:=[7]) (by kernel_rfl) (by simp) ?_
          refine AllReadyH.cons rfl ?_ AllReadyH.nil
          intro K' hK'
          go_simp;go_at_call 121;refine (AY wr.heap.size q G uc 8 11 z.toNat b _ ap.out.drew (by omega) (by omega)).mono ?_;rintro e w7 ⟨⟨pv,rfl,bH⟩,b6,O⟩;have B:Hid (Ext (fun j=>j=wr.heap.size) V w7):=ae ⟨O.os,O.tape,O.output,O.size,O.block⟩;have ag:w7.cell? ⟨w.heap.size+1,1,none⟩=some (.slice l (gA d at' k).length m):=B.out.cell (p:=⟨w.heap.size+1,1,none⟩) (by show w.heap.size+1≠wr.heap.size;omega) ca;have ak:w7.cell? ⟨q,G+8+2,none⟩=some (.int .u8 (z.toNat:Int)):=B.out.cell (p:=⟨q,G+8+2,none⟩) (by show q≠wr.heap.size;omega) a5;have c5:=ae bH;clear b6 O bH;refine hK'.out _ _ ⟨ag,ak⟩ ?_
          clear hK' K'
          intro f3
          try simp only [ai,aj,aq]
          refine wpAnyH_ready (rs:=[8]) (by kernel_rfl) (by simp) ?_
          refine AllReadyH.cons rfl ?_ AllReadyH.nil
          intro K' hK'
          refine lp rfl (.tmp 77) (.tmp 83) rfl (w.heap.size+2) (.slice l (gA d at' k).length m) (gA d at' k).length (gA d at' k) rfl (by exact W.out.frame B.out.size fun j e U=>B.out.block j U (by show j≠wr.heap.size;have:=a4.out j e;omega)) (by exact en.out.frame fun j e U=>B.out.block j U (by show j≠wr.heap.size;have:=a4.out j e;omega)) ((b.drop 11).take z.toNat) (by exact c5.out) (by have:=eT.out;rw [aA];omega) (by have:=B.out.size;omega) ?_;intro v8 w8 R al a7 bI;obtain ⟨bL,bM,rfl⟩:=R.shape;have bN:=ae bI;have bO:=ae R;have c6:=ae a7;have c7:=ae al;have f4:=B.out.size;have a9:w8.cell? ⟨w.heap.size+1,1,none⟩=some (.slice l (gA d at' k).length m):=(aU (w:=w7) (al.block (w.heap.size+1) (by omega) (fun e=>by have:=a3.out _ e.symm;omega))).trans ag;have bP:w8.cell? ⟨q,G+8+2,none⟩=some (.int .u8 (z.toNat:Int)):=(aU (w:=w7) (al.block q (by omega) (fun e=>by have:=a3.out _ e.symm;omega))).trans ak;clear R al a7 bI;refine hK'.out _ _ ⟨a9,bP⟩ ?_
          clear hK' K'
          intro f5
          try simp only [Act.put,ai,aj,aq]
          refine wpAnyH_take (i:=9) (v := ?_) rfl (by kernel_rfl) (by kernel_rfl) (by kernel_rfl) (fun _ _ _ h=>h) (Or.inl ⟨by rfl,?_⟩) (by assumption) ?_
          rotate_left 1
          ·(intro w o;(try dsimp only at o);go_simp;(try with_reducible rfl))
          try simp only [Act.put,ai,aj,aq]
          refine wpAnyH_done (by kernel_rfl) ?_ _
          show Oper.wp _ _ _ _ _ _
          have D:=a9
          have c8:=ao _ _ 1 _ _ X.out
          have aa:Hid (w8.heap[w.heap.size+1]?=some (.cells #[.int .u64 (S:Nat),.slice l (gA d at' k).length m,.int .i64 0] 278 (0,0))):=ae ((c7.out.block (w.heap.size+1) (by omega) (fun e=>by have:=a3.out _ e.symm;omega)).trans (B.out.at (by show w.heap.size+1≠wr.heap.size;omega) X.out))
          have hw:=ao _ _ 1 _ _ aa.out
          have hx:=fI aa.out
          have c9:Hid (∀ j,(Value.slice bL _ bM).ownBlock=some j→w.heap.size+2≤j):=ae bO.out.fU
          clear c8 ag ak bP a9 el ca em ab b8 bx a5
          go_wp2
          have am:((b.drop 11).take z.toNat).length=z.toNat:=by rw [aA,a8];omega
          have da:gA d at' (k+1)=gA d at' k++(b.drop 11).take z.toNat:=vr bi.out (by rw [M.out])
          refine ⟨⟨k+1,P,rfl,by go_num,S,.slice bL ((gA d at' k).length+z.toNat) bM,heap_setCell _ _ 1 _ aa.out,?_,?_,?_,?_,.inr ⟨by omega,b0,e1.out,cf.out,ci.out,q3,fun i kf => ?_⟩,.inl (by omega),r8⟩,by simp [intOf];omega⟩
          ·rw [da,ar,am]
           have h1:=bO.out
           rw [am] at h1
           exact h1.frame (by rw [size_setCell];exact ah _) fun j e _=>Below.heap_setCell w8 ⟨w.heap.size+1,1,none⟩ _ j (by show j≠w.heap.size+1;have:=h1.fU j e;omega)
          ·have h1:=c6.out
           rw [am] at h1
           exact h1.frame fun j e _=>Below.heap_setCell w8 ⟨w.heap.size+1,1,none⟩ _ j (by show j≠w.heap.size+1;have:=c9.out j (by rw [am];exact e);omega)
          ·exact ((a1.out.trans (B.out.below (aI cp hf) fun j U e=>by have e':j=wr.heap.size:=e;omega)).trans (bN.out.mono (by omega))).setCell (p:=⟨w.heap.size+1,1,none⟩) (by simp) _
          ·exact (Below.heap_setCell w8 ⟨w.heap.size+1,1,none⟩ _ w.heap.size (by show w.heap.size≠w.heap.size+1;omega)).trans ((bN.out.block _ (by omega)).trans (B.out.at (by show w.heap.size≠wr.heap.size;omega) av.out))
          ·by_cases hA:i<k
           ·exact hy.out i hA
           ·obtain rfl:i=k:=by omega
            exact nE.2 ⟨_,bi.out,by rw [←HS.out];exact ci.out,by rw [M.out];exact c4.out,by rw [M.out,←cf.out];exact hz.out,by rw [M.out];simp;omega⟩
         ·have b4:(53:Int)<(z.toNat:Int):=by omega
          have r:Hid (iS d at'=none):=ae (ba.out (.inr (.inr (.inr (by rw [M.out];simp;omega)))))
          go_wp2
          obtain ⟨D,I,Q⟩:=ot rfl a1.out W.out (.int .u64 (S:Nat)) (.slice l (gA d at' k).length m) (.int .i64 0)
          refine aK (v := .tuple #[.agg #[.int .u64 (S:Nat),.slice l (gA d at' k).length m,.int .i64 0],.bool false]) (by simp [results,Tryz.results158,go_sem,bk,bl,bn]) rfl ⟨D,S,0,_,_,by rw [r.out];rfl,I,Q,fun x s=>by rw [r.out] at s;cases s⟩
        ·have f7:((y.toNat:Int) != (P:Int))=true:=by simp;omega
         have r:Hid (iS d at'=none):=ae (ba.out (.inr (.inr (.inl (by rw [M.out,←cf.out];exact dc)))))
         go_wp2
         obtain ⟨D,I,Q⟩:=ot rfl a1.out W.out (.int .u64 (S:Nat)) (.slice l (gA d at' k).length m) (.int .i64 0)
         refine aK (v := .tuple #[.agg #[.int .u64 (S:Nat),.slice l (gA d at' k).length m,.int .i64 0],.bool false]) (by simp [results,Tryz.results158,go_sem,bk,bl,bn]) rfl ⟨D,S,0,_,_,by rw [r.out];rfl,I,Q,fun x s=>by rw [r.out] at s;cases s⟩
       ·have b3:((x.toNat:Int) != (k:Int))=true:=by simp;omega
        have r:Hid (iS d at'=none):=ae (ba.out (.inr (.inl (by rw [M.out];exact a2))))
        go_wp2
        obtain ⟨D,I,Q⟩:=ot rfl a1.out W.out (.int .u64 (S:Nat)) (.slice l (gA d at' k).length m) (.int .i64 0)
        refine aK (v := .tuple #[.agg #[.int .u64 (S:Nat),.slice l (gA d at' k).length m,.int .i64 0],.bool false]) (by simp [results,Tryz.results158,go_sem,bk,bl,bn]) rfl ⟨D,S,0,_,_,by rw [r.out];rfl,I,Q,fun x s=>by rw [r.out] at s;cases s⟩
      ·have h2:((S:Int) != (st:Int))=true:=by simp;omega
       have r:Hid (iS d at'=none):=ae (ba.out (.inl (by rw [←HS.out,←ci.out];exact e2)))
       go_wp2
       obtain ⟨D,I,Q⟩:=ot rfl a1.out W.out (.int .u64 (st:Nat)) (.slice l (gA d at' k).length m) (.int .i64 0)
       refine aK (v := .tuple #[.agg #[.int .u64 (st:Nat),.slice l (gA d at' k).length m,.int .i64 0],.bool false]) (by simp [results,Tryz.results158,go_sem,bk,bl,bn]) rfl ⟨D,st,0,_,_,by rw [r.out];rfl,I,Q,fun x s=>by rw [r.out] at s;cases s⟩
  ·have g1:¬(k:Int)<P:=by omega
   have e3:Hid (iS d at'=if 0<P then some ⟨st,gA d at' k,at'+P⟩ else none):=ae (by
    rcases co.out with ⟨D,I⟩ | ⟨hj,b0,q0,q1,q2,q3,q4⟩
    ·omega
    ·split
     ·rename_i j2
      have hB:k=P:=by omega
      rw [hB] at q4⊢
      exact iZ.2 ⟨P,j2,q3,rfl,rfl,fun i kf=>by rw [q1,q2];exact nE.1 (q4 i kf)⟩
     ·unfold iS
      rw [q0]
      simp only
      rw [aw (fun hc=>by omega)])
   have e4:decide ((0:Int)<(P:Int))=decide (0<P):=by simp
   have i7:=ae e4
   clear e4
   go_wp2
   have hC:OwnS (wr.setCell ⟨w.heap.size+1,2,none⟩ (.int .i64 ((at':Int)+(P:Int)))) (w.heap.size+2) 1 (.slice l (gA d at' k).length m) (gA d at' k).length (u8s (gA d at' k)) :=
    bc.out.frame (by rw [size_setCell];exact ah _) fun j e _=>Below.heap_setCell wr ⟨w.heap.size+1,2,none⟩ _ j (by show j≠w.heap.size+1;have:=bc.out.fU j e;omega)
   obtain ⟨D,I,Q⟩:=ot rfl (bv.out.setCell (p:=⟨w.heap.size+1,2,none⟩) (by simp) (.int .i64 ((at':Int)+(P:Int)))) hC (.int .u64 (st:Nat)) (.slice l (gA d at' k).length m) (.int .i64 ((at':Int)+(P:Int)))
   refine aK (v := .tuple #[.agg #[.int .u64 (st:Nat),.slice l (gA d at' k).length m,.int .i64 ((at':Int)+(P:Int))],.bool (decide (0<P))]) (by simp [results,Tryz.results158,go_sem,u0,u1,u2]) rfl ⟨D,st,at'+P,_,?_,_,I,Q,fun x s => ?_⟩
   ·rw [e3.out,Int.natCast_add]
    by_cases j2:0<P
    ·simp [j2]
    ·simp [j2]
   ·rw [e3.out] at s
    split at s
    ·cases s
     rfl
    ·cases s
end Go.Proofs.YtkkfmkhbdoeglaaGreatDoor
