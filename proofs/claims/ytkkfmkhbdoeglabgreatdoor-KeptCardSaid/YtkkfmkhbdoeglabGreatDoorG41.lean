/- A part of what is proved here: lemmas and contracts of single functions. No condition but those that each names. -/
import Derived.Test.YtkkfmkhbdoeglabGreatDoorG00
import Derived.Test.YtkkfmkhbdoeglabGreatDoorG25
import Derived.Test.YtkkfmkhbdoeglabGreatDoorG28
import Derived.Test.YtkkfmkhbdoeglabGreatDoorG39
import Derived.Test.YtkkfmkhbdoeglabGreatDoorG40
set_option maxHeartbeats 4000000
set_option maxRecDepth 100000
namespace Go.Proofs.YtkkfmkhbdoeglabGreatDoor
open Go.RowKit Go.Shelf
def nZ (k at' s:Nat):Value := .agg #[.int .i64 (k:Nat),.int .i64 (at':Nat),.int .i64 (s:Nat)]
def oP (w:World) (M:Nat→Prop) (X:Nat) (R:fP×(PAg⊕(Nat×Nat×Nat))) (e:Ending) (w':World):Prop:=match R with
 | (H',.inr (k,at',s))=>e = .returned (nZ k at' s)∧jz w M X H' none w'
 | (H',.inl p)=>e = .returned (nZ 0 0 0)∧jz w M X H' (some p) w'
theorem zD {n:Nat} {l:List Int} {H:fP} (d:mG n l H.seen) (i:H.dp.room=roomN l):∃ slot next v T,DiskInv decSB decDB foldS [] (H.seen.map parseSec) (placeOf n) slot v T next∧TabOk n (roomN l) v T∧ie H=match readAll H with
 | (H1,some f)=>(H1,.inr (12,0,f))
 | (H1,none)=>(H1.nf T,.inl ⟨begunA v T,0,⟨gO H.seen,slot,next⟩⟩):=by
 obtain ⟨g,v,T,b,h2,h3⟩:=d
 refine ⟨g.slot,g.next,v,T,h2,h3,?_⟩
 have j:g.stamp=gO H.seen:=by
  have:(Bf H.seen).1.stamp=g.stamp:=by rw [b]
  rw [←this]
  rfl
 unfold ie
 generalize readAll H=q
 obtain ⟨H1,r⟩:=q
 cases r with
 | some f=>rfl
 | none =>
  simp only
  rw [b,i]
  simp only
  rw [h3.over,←j]
def oK (w:World) (R:Nat) (x y z:Value):World:=((w.setCell ⟨R,0,none⟩ x).setCell ⟨R,1,none⟩ y).setCell ⟨R,2,none⟩ z
theorem nz {w:World} {R:Nat} {a b c:Value} {T:TypeId} {fz:Nat×Nat} (h:w.heap[R]?=some (.cells #[a,b,c] T fz)) (x y z:Value):(oK w R x y z).heap[R]?=some (.cells #[x,y,z] T fz):=heap_setCell _ _ 2 _ (heap_setCell _ _ 1 _ (heap_setCell _ _ 0 _ h))
theorem mh (w:World) (R:Nat) (x y z:Value):Ext (fun k=>k=R) w (oK w R x y z):=(((Ext.refl (fun k=>k=R) w).setCell ⟨R,0,none⟩ _ (.inl rfl)).setCell ⟨R,1,none⟩ _ (.inl rfl)).setCell ⟨R,2,none⟩ _ (.inl rfl)
theorem xN {H:fP} {f:Nat} (b:32≤H.seen.length∧H.seen.length≤128) (h:(readAll H).2=some f):f≤100000:=by
 unfold readAll at h
 split at h
 ·cases h;omega
 ·cases h
theorem wj (n B X h:Nat) (l:List Int) (M F:Nat→Prop) (H:fP) (cv:Value) (w:World) (N:w.heap[X]?=some (.cells #[.pointer (some ⟨h,0,none⟩),cv] 136 (0,0))) (hX:M X) (hh:HostAt w F h H) (hF:∀ k,F k→M k∧k≠X) (q:Fine n l B H) (hB:B≤800000000) (ho:mG n l H.seen) (bn:ShapesVar w) (bo:ErrVar w) (br:∀ k,M k→2≤k) :
  Calls Tryz.prog 95 #[.pointer (some ⟨X,0,none⟩)] w (oP w M X (ie H)):=by
 obtain ⟨slot,next,v,T,bS,O,bs⟩:=zD ho q.dp.room
 rw [bs]
 have J:Below w.heap.size w (w.alloc (.cells #[.int .i64 0,.int .i64 0,.int .i64 0] 34)):=(Below.rf w).alloc (af _) _
 have R0:=fR w (.cells #[.int .i64 0,.int .i64 0,.int .i64 0] 34)
 have av:=fQ J (fO N) N
 have bt:=fO N
 have bv:=hh.below J
 have bM:=bn.new J
 have bN:=bo.new J
 have cs:=hh.lt
 have ct:(w.alloc (.cells #[.int .i64 0,.int .i64 0,.int .i64 0] 34)).heap.size=w.heap.size+1:=aw _ _
 have bw:=ab J
 have r:=ab hF
 have am:=ab hh.lt
 have bx:=ab bN
 have R:=ab br
 clear bs J N hh bn bo br
 generalize bz:w.alloc (.cells #[.int .i64 0,.int .i64 0,.int .i64 0] 34)=u at *
 have c0:=ae _ _ 0 _ _ _ av
 have cp:=fO av
 have bD:=ab av
 have bH:=ab R0
 cases S:(readAll H).2 with
 | some f =>
  have aE:=ab (fun (W:World) (hW:Below u.heap.size u W)=>Fa h F H B W (bv.below hW) q.ok f S)
  have a0:Hid (readAll H=((readAll H).1,some f)):=ab (by rw [←S])
  rw [a0.out]
  have bX:f≤100000:=xN q.ok.n S
  go_enter Tryz.func95,Tryz.ntmps95
  go_upto_region 1 with fail
  clear bz
  go_region_held3 (fun w'=>w'.cell? ⟨X,0,none⟩=some (.pointer (some ⟨h,0,none⟩)))
   (first | exact c0 | exact (m.out.cell (p:=⟨X,0,none⟩) (fun e=>(r.out X e).2 rfl) c0))
   (first | (go_at_call 133;refine (aE.out _ (by first | exact (Below.rf u).drew | exact Below.rf u)).mono ?_;rintro e w1 ⟨b,c,rfl,a1,a2,bI,x⟩;have m:Hid (Ext F u w1):=ab (by first | exact (Ext.fT (Below.rf u).drew).trans x | exact x);clear x))
  have i:=m.out.at (fun e=>(r.out X e).2 rfl) bD.out
  have U:=m.out.at (fun e=>absurd (am.out _ e) (dA _)) bH.out
  have x1:=ae _ _ 1 _ _ _ i
  have z1:=aj _ _ 1 _ _ i
  have b0:=fO i
  have V:X≠w.heap.size:=fL bt
  have j:Ext (fun k=>k=X) w1 (w1.setCell ⟨X,1,none⟩ (.pointer none)):=(Ext.refl (fun k=>k=X) w1).setCell ⟨X,1,none⟩ _ (.inl rfl)
  have Y:(w1.setCell ⟨X,1,none⟩ (.pointer none)).heap[X]?=some (.cells #[.pointer (some ⟨h,0,none⟩),.pointer none] 136 (0,0)):=heap_setCell _ _ 1 (.pointer none) i
  have Z:=j.at (show ¬w.heap.size=X from fun e=>V e.symm) U
  have a3:=(bx.out.ext m.out fun k hk=>R.out k (r.out k hk).1).ext j fun k e=>e▸R.out X hX
  have C:Ext M w w1:=(Ext.fT bw.out).trans (m.out.mono fun k hk=>(r.out k hk).1)
  have D:Ext M w (w1.setCell ⟨X,1,none⟩ (.pointer none)):=C.setCell ⟨X,1,none⟩ _ (.inl hX)
  have b1:ng (w1.setCell ⟨X,1,none⟩ (.pointer none)) b c 12 0:=j.at (fun e=>iQ a1 i (by decide) e) a1
  have b2:=j.at (fun e=>iQ a2 i (by decide) e) a2
  have a4:=ab (show HostAt (w1.setCell ⟨X,1,none⟩ (.pointer none)) F h (readAll H).1 from bI.ext j fun k hk e=>(r.out k hk).2 e)
  clear a1 a2 bI
  have aa:=ab Y
  have G:=ab Z
  have b3:=ab j
  have ak:=ab D
  have b4:Hid (w.heap.size≤w1.heap.size):=ab C.size
  clear i U Y Z j C D
  go_wp2_with fail
  generalize w1.setCell ⟨X,1,none⟩ (.pointer none)=w2 at *
  refine (rz b c 12 0 f _ a3 b1 b2 bX (by omega) (by omega)).mono ?_
  rintro e w3 ⟨rfl,o⟩
  have ag:=fQ o (fO aa.out) aa.out
  have d:=fQ o (fO G.out) G.out
  have a5:=ab ag
  have a6:=ab d
  have al:=ab (ak.out.trans (Ext.fT o))
  have a7:=ab o
  have b5:=ae _ _ 0 _ _ _ d
  have b6:=ae _ _ 1 _ _ _ d
  have b7:=ae _ _ 2 _ _ _ d
  have b8:=aj _ _ 0 _ _ d
  have ca:=aj _ _ 1 _ _ d
  have cb:=aj _ _ 2 _ _ d
  have ce:=fO d
  clear ag d o
  go_wp2
  have I:=fX _ (.cells #[.int .i64 12,.int .i64 0,.int .i64 (f:Nat)] 34) (nz a6.out (.int .i64 12) (.int .i64 0) (.int .i64 (f:Nat)))
  have q0:=ae _ _ 0 _ _ _ I
  have q1:=ae _ _ 1 _ _ _ I
  have q2:=ae _ _ 2 _ _ _ I
  have s:Ext (fun k=>k=w.heap.size) w3 ((oK w3 w.heap.size (.int .i64 12) (.int .i64 0) (.int .i64 (f:Nat))).alloc (.cells #[.int .i64 12,.int .i64 0,.int .i64 (f:Nat)] 34)):=(mh w3 w.heap.size _ _ _).alloc _
  unfold oK at q0 q1 q2 s
  refine aI (v:=nZ 12 0 f) (by simp [results,Tryz.results95,go_sem,nZ,q0,q1,q2]) rfl ?_
  refine ⟨rfl,M,⟨h,_,s.at V a5.out,hX,rfl,F,?_,r.out⟩,fun k => .inl,al.out.trans' s fun k e => .inr (by omega)⟩
  exact ((a4.out.below a7.out).ext s fun k hk e=>by have e':k=w.heap.size:=e;have:=am.out k hk;omega)
 | none =>
  have hk:∀ y:E,EntGood y→y.1.2.length≤gF∧y.2.length≤gF:=fun y hy=>by have:=hy.small;unfold gF;omega
  have aE:=ab (fun (W:World) (hW:Below u.heap.size u W)=>Dt h F H B W (bv.below hW) q.ok (bM.new hW) (fun k hk=>R.out k (r.out k hk).1) slot v next T (by rw [q.len];exact bS) S (by have:=O.v64;omega) (by have:=O.len;omega) (by have:=q.dp.there.len;omega) (by have:=q.dp.log;omega) (fun y hy=>(hk y (q.dp.there.mem y hy)).1) (fun y hy=>hk y (O.good y hy)) (by rw [q.dp.room];exact O.over))
  have a0:Hid (readAll H=((readAll H).1,none)):=ab (by rw [←S])
  rw [a0.out]
  go_enter Tryz.func95,Tryz.ntmps95
  go_upto_region 1 with fail
  clear bz
  go_region_held3 (fun w'=>w'.cell? ⟨X,0,none⟩=some (.pointer (some ⟨h,0,none⟩)))
   (first | exact c0 | exact (m.out.cell (p:=⟨X,0,none⟩) (fun e=>(r.out X e).2 rfl) c0))
   (first | (go_at_call 133;refine (aE.out _ (by first | exact (Below.rf u).drew | exact Below.rf u)).mono ?_;rintro e w1 ⟨a,rfl,-,M1,be,bL,x⟩;have bi:Hid (∀ k,M1 k→F k∨u.heap.size≤k):=ab bL;clear bL;have m:Hid (Ext F u w1):=ab (by first | exact (Ext.fT (Below.rf u).drew).trans x | exact x);clear x))
  have i:=m.out.at (fun e=>(r.out X e).2 rfl) bD.out
  have U:=m.out.at (fun e=>absurd (am.out _ e) (dA _)) bH.out
  have x1:=ae _ _ 1 _ _ _ i
  have z1:=aj _ _ 1 _ _ i
  have b0:=fO i
  have V:X≠w.heap.size:=fL bt
  have j:Ext (fun k=>k=X) w1 (w1.setCell ⟨X,1,none⟩ (.pointer (some ⟨a,0,none⟩))):=(Ext.refl (fun k=>k=X) w1).setCell ⟨X,1,none⟩ _ (.inl rfl)
  have Y:(w1.setCell ⟨X,1,none⟩ (.pointer (some ⟨a,0,none⟩))).heap[X]?=some (.cells #[.pointer (some ⟨h,0,none⟩),.pointer (some ⟨a,0,none⟩)] 136 (0,0)):=heap_setCell _ _ 1 (.pointer (some ⟨a,0,none⟩)) i
  have Z:=j.at (show ¬w.heap.size=X from fun e=>V e.symm) U
  have a3:=(bx.out.ext m.out fun k hk=>R.out k (r.out k hk).1).ext j fun k e=>e▸R.out X hX
  have C:Ext M w w1:=(Ext.fT bw.out).trans (m.out.mono fun k hk=>(r.out k hk).1)
  have D:Ext M w (w1.setCell ⟨X,1,none⟩ (.pointer (some ⟨a,0,none⟩))):=C.setCell ⟨X,1,none⟩ _ (.inl hX)
  have a4:=ab (show Eb (w1.setCell ⟨X,1,none⟩ (.pointer (some ⟨a,0,none⟩))) M1 a h _ _ from be.frame j fun k hk e=>by
   have e':k=X:=e
   rcases bi.out k hk with Q | Q
   ·exact (r.out k Q).2 e'
   ·omega)
  clear be
  have aa:=ab Y
  have G:=ab Z
  have b3:=ab j
  have ak:=ab D
  have b4:Hid (w.heap.size≤w1.heap.size):=ab C.size
  clear i U Y Z j C D
  go_wp2_with fail
  generalize w1.setCell ⟨X,1,none⟩ (.pointer (some ⟨a,0,none⟩))=w2 at *
  refine (oW _).mono ?_
  rintro e w3 ⟨rfl,o⟩
  have ag:=fQ o (fO aa.out) aa.out
  have d:=fQ o (fO G.out) G.out
  have a5:=ab ag
  have a6:=ab d
  have al:=ab (ak.out.trans (Ext.fT o))
  have a7:=ab o
  have b5:=ae _ _ 0 _ _ _ d
  have b6:=ae _ _ 1 _ _ _ d
  have b7:=ae _ _ 2 _ _ _ d
  have b8:=aj _ _ 0 _ _ d
  have ca:=aj _ _ 1 _ _ d
  have cb:=aj _ _ 2 _ _ d
  have ce:=fO d
  clear ag d o
  go_wp2
  have I:=fX _ (.cells #[.int .i64 0,.int .i64 0,.int .i64 0] 34) (nz a6.out (.int .i64 0) (.int .i64 0) (.int .i64 0))
  have q0:=ae _ _ 0 _ _ _ I
  have q1:=ae _ _ 1 _ _ _ I
  have q2:=ae _ _ 2 _ _ _ I
  have s:Ext (fun k=>k=w.heap.size) w3 ((oK w3 w.heap.size (.int .i64 0) (.int .i64 0) (.int .i64 0)).alloc (.cells #[.int .i64 0,.int .i64 0,.int .i64 0] 34)):=(mh w3 w.heap.size _ _ _).alloc _
  unfold oK at q0 q1 q2 s
  refine aI (v:=nZ 0 0 0) (by simp [results,Tryz.results95,go_sem,nZ,q0,q1,q2]) rfl ?_
  refine ⟨rfl,fun k=>M k∨w.heap.size≤k,⟨h,_,s.at V a5.out,.inl hX,a,M1,rfl,?_,fun k hk => ?_⟩,fun k hk=>hk,al.out.trans' s fun k e => .inr (by omega)⟩
  ·refine (a4.out.below a7.out).frame s fun k hk e => ?_
   have e':k=w.heap.size:=e
   rcases bi.out k hk with Q | Q
   ·have:=am.out k Q;omega
   ·omega
  ·rcases bi.out k hk with Q | Q
   ·exact ⟨.inl (r.out k Q).1,(r.out k Q).2⟩
   ·exact ⟨.inr (by omega),by omega⟩
end Go.Proofs.YtkkfmkhbdoeglabGreatDoor
namespace Go.Proofs.YtkkfmkhbdoeglabGreatDoor
open Go.RowKit Go.Shelf
theorem FV (d:Int) (l:List Int) (rv:Value) (w:World) (hr:fW w rv 1 l.length (l.map fun i => .int .i64 i)) (n:Nat) (hn:(n:Int)=min (max d 32) 128) (q:ShapesVar w) (D:ErrVar w) (H':fP) (p:PAg) (E:ie (mZ n (roomN l))=(H',.inl p)) :
  Calls Tryz.prog 65 #[.int .i64 d,rv] w fun e w'=>∃ X M,e = .returned (.tuple #[.pointer (some ⟨X,0,none⟩),nZ 0 0 0])∧HostX w' M X H' (some p)∧(∀ k,M k→w.heap.size≤k)∧Below w.heap.size w w':=by
 have j:Below w.heap.size w (w.alloc (.cells #[.int .i64 0,.int .i64 0,.int .i64 0] 34)):=(Below.rf w).alloc (af _) _
 have R0:=fR w (.cells #[.int .i64 0,.int .i64 0,.int .i64 0] 34)
 have F:(w.alloc (.cells #[.int .i64 0,.int .i64 0,.int .i64 0] 34)).heap.size=w.heap.size+1:=aw _ _
 have r:=q.new j
 have s:=D.new j
 have G:=ab (Ba d l rv _ (hr.below j) n hn)
 have I:32≤n∧n≤128:=by omega
 have ap:=ab E
 have h2:=q.two
 have av:=ab j
 have J:=ab R0
 have aE:=ab F
 have a0:=ab r
 have a1:=ab s
 clear hr hn q D E j R0 F r s
 go_enter Tryz.func65,Tryz.ntmps65
 go_wp2_with fail
 refine G.out.mono ?_
 rintro e w1 ⟨h,rfl,N,m⟩
 generalize w.alloc (.cells #[.int .i64 0,.int .i64 0,.int .i64 0] 34)=u at *
 have o:Below w1.heap.size w1 (w1.alloc (.cells #[.pointer (some ⟨h,0,none⟩),.pointer none] 136)):=(Below.rf w1).alloc (af _) _
 have X2:=fR w1 (.cells #[.pointer (some ⟨h,0,none⟩),.pointer none] 136)
 have O:(w1.alloc (.cells #[.pointer (some ⟨h,0,none⟩),.pointer none] 136)).heap.size=w1.heap.size+1:=aw _ _
 have Q:=m.size
 have bc:=aE.out
 have a3:=ab (wj n 0 w1.heap.size h l (fun k=>u.heap.size≤k∧k<w1.heap.size+1) (fun k=>u.heap.size≤k∧k<w1.heap.size) (mZ n (roomN l)) (.pointer none) _ X2 ⟨Q,by omega⟩ (N.below o) (fun k hk=>⟨⟨hk.1,by omega⟩,by omega⟩) (Fine.new n l I) (by omega) (yt n l I) ((a0.out.new m).new o) ((a1.out.new m).new o) (fun k hk=>by omega))
 have R:=ab m
 have x:=ab o
 clear N m o X2 G O
 go_wp2_with fail
 refine a3.out.mono ?_
 rintro e w3 S
 rw [ap.out] at S
 obtain ⟨rfl,M',U,V,W⟩:=S
 have a4:Ext (fun _=>False) u w1:=Ext.fT R.out
 have y:Below u.heap.size u w3:=(R.out.trans (x.out.mono Q)).trans (W.below (by have:=x.out.size;omega) fun k hk e=>by omega)
 have b:=fQ y (fO J.out) J.out
 have a5:=ab b
 have a6:=ab U
 have Y:=ab V
 have Z:=ab y
 have a7:=ab (x.out.size)
 have bk:=ae _ _ 0 _ _ _ b
 have bl:=ae _ _ 1 _ _ _ b
 have bn:=ae _ _ 2 _ _ _ b
 have bo:=aj _ _ 0 _ _ b
 have br:=aj _ _ 1 _ _ b
 have bs:=aj _ _ 2 _ _ b
 have bt:=fO b
 clear U V W y b a4
 unfold nZ
 go_wp2
 have B:=nz a5.out (.int .i64 0) (.int .i64 0) (.int .i64 0)
 have q0:=ae _ _ 0 _ _ _ B
 have q1:=ae _ _ 1 _ _ _ B
 have q2:=ae _ _ 2 _ _ _ B
 have C:Ext (fun k=>k=w.heap.size) w3 (oK w3 w.heap.size (.int .i64 0) (.int .i64 0) (.int .i64 0)):=mh w3 w.heap.size _ _ _
 unfold oK at q0 q1 q2 C
 refine aI (v := .tuple #[.pointer (some ⟨w1.heap.size,0,none⟩),.agg #[.int .i64 0,.int .i64 0,.int .i64 0]]) (by simp [results,Tryz.results65,go_sem,q0,q1,q2]) rfl ?_
 have O:=a7.out
 refine ⟨w1.heap.size,M',rfl,a6.out.frame C fun k hk e => ?_,fun k hk => ?_,?_⟩
 ·have e':k=w.heap.size:=e
  rcases Y.out k hk with h' | h'
  ·omega
  ·omega
 ·rcases Y.out k hk with h' | h'
  ·omega
  ·omega
 ·exact (av.out.trans (Z.out.mono (by omega))).trans (C.below (by have:=Z.out.size;omega) fun k hk e=>by have e':k=w.heap.size:=e;omega)
theorem zj (n B X:Nat) (l:List Int) (M:Nat→Prop) (H:fP) (p:PAg) (frame:List UInt8) (w:World) (hh:HostX w M X H (some p)) (hr:tW n l B H p) (hl:frame.length≤1000000) (U:ShapesVar w) (V:ErrVar w) (W:∀ k,M k→2≤k) :
  Calls Tryz.prog 27 #[.pointer (some ⟨X,0,none⟩),.string ⟨frame.toArray⟩] w fun e w'=>e = .returned (.tuple #[])∧jz w M X (ij H p frame).1 (some (ij H p frame).2) w':=by
 obtain ⟨h,a,M',m,hX,⟨F,G,O,x,hm,Y⟩,Z⟩:=hh.G5
 have bD:(1000000:Nat)≤gF:=by decide
 have a4:=fO m
 have S:=ab hm
 have HR:=ab hr
 have a5:=ab m
 have o:=ab Y
 have q:=ab Z
 have a6:=ab U
 have a7:=ab V
 have a9:=ab W
 obtain ⟨R,hR⟩:∃ R,R=ij H p frame:=⟨_,rfl⟩
 have ba:=ab hR
 rw [←hR]
 clear hh hm hr m Y Z U V W hR
 go_enter Tryz.func27,Tryz.ntmps27
 go_wp2_with (first | (refine lC rfl (.tmp 6) rfl frame rfl (by omega) ?_;intro cap w1 r D bH;have r1:=fQ D a4 a5.out;have c1:=ae _ _ 1 _ _ _ r1;have bb:=fO r1;have bc:=ab r1;have aa:=ab r;have s:=ab D;clear r1 r D) | fail)
 have be:Hid (∀ k,F k∨G k∨O k→k<w.heap.size):=ab fun k hk=>hk.elim (S.out.host.lt k) fun hk=>hk.elim (S.out.ag.glt k) (S.out.ag.olt k)
 have b:=HR.out
 refine (yV n B a h l F G O (fun k=>F k∨G k∨O k) H p x (.slice (some ⟨w.heap.size,0,none⟩) frame.length cap) frame w1 (S.out.below s.out) (fun k hk=>hk) b.up b.fit (by have:=b.fine.ok.n;rw [b.fine.len] at this;exact this) b.fine.ok b.low b.stamp (by have:=b.fine.dp.log;have:=b.low;omega) aa.out.bytes (by omega) (a6.out.new s.out) (a7.out.new s.out) (fun k hk=>a9.out k (q.out k (o.out k hk)).1)).mono ?_
 rintro e w2 ⟨rfl,E⟩
 rw [←ba.out] at E
 have bi:=kv.Io (M:=fun k=>(F k∨G k∨O k)∨k=X) bc.out (.inr rfl) (fun k hk=>⟨.inl hk,(q.out k (o.out k hk)).2⟩) E
 obtain ⟨M3,ak,I,j⟩:=bi
 have al:¬((F w.heap.size∨G w.heap.size∨O w.heap.size)∨w.heap.size=X):=fun e=>e.elim (fun e=>dA _ (be.out _ e)) fun e=>by omega
 have am:=aa.out.frame j.size fun k e hk=>j.block k hk (by cases e;exact al)
 have J:∀ k,M3 k→k≠w.heap.size:=fun k hk e=>by
  rcases I k hk with d | d
  ·exact al (e▸d)
  ·omega
 have N:∀ k,M3 k→M k∨w.heap.size≤k:=fun k hk=>by
  rcases I k hk with d | d
  ·exact .inl (d.elim (fun d=>(q.out k (o.out k d)).1) fun e=>e▸hX)
  ·exact .inr (by omega)
 have bk:=ab (show Ext M w w2 from (Ext.fT s.out).trans (j.mono fun k d=>d.elim (fun d=>(q.out k (o.out k d)).1) fun e=>e▸hX))
 have bl:=ab ak
 have bn:=ab N
 have a0:=ab J
 have u:∀ i,i<frame.length→(w2.cell? ⟨w.heap.size,i,none⟩).isSome=true∧w2.frozen? ⟨w.heap.size,i,none⟩=false:=by
  obtain ⟨-,Q | ⟨g,off,bv,he,_,_,hn,_,_,hf⟩⟩:=am
  ·cases Q.1
  ·cases he
   intro i hi
   have:=hf i (by omega)
   rw [bG] at this
   exact this
 have bx:=j.size
 have h0:oN w2 w.heap.size frame.length (.int .i64 0) w2:=⟨0,aM _,rfl,u,by omega,Ext.refl _ _⟩
 clear u E ak I j am J N c1 bb
 go_wp2
 go_loopw [16] (fun i wr=>oN w2 w.heap.size frame.length i wr) (fun i _=>frame.length-(intOf i).toNat)
 case atStart=>exact h0
 case round =>
  clear h0
  obtain ⟨k,hk,rfl,y,br,Q⟩:=hrel
  by_cases ap:k<frame.length
  ·have bz:(k:Int)<frame.length:=by omega
   obtain ⟨C,hz⟩:=y k ap
   obtain ⟨ov,bI⟩:=cC.1 C
   have bs:=ab y
   clear y C
   go_wp2
   exact ⟨oN.step ap bs.out br Q,by simp [intOf];omega⟩
  ·obtain rfl:k=frame.length:=by omega
   have bL:¬(frame.length:Int)<frame.length:=by omega
   clear y
   go_wp2
   go_end0
   exact ⟨rfl,M3,bl.out.frame Q a0.out,bn.out,bk.out.trans' Q fun k e => .inr (by have e':k=w.heap.size:=e;omega)⟩
def vy (w1:World) (g off n:Nat) (i:Value) (wr:World):Prop :=
 ∃ k:Nat,k≤n∧i = .int .i64 k∧(∀ i,i<n→(wr.cell? ⟨g,off+i,none⟩).isSome=true∧wr.frozen? ⟨g,off+i,none⟩=false)∧g<wr.heap.size∧Ext (fun b=>b=g) w1 wr
theorem vy.step {w1 wr:World} {g off n k:Nat} {v:Value} (hk:k<n) (h1:∀ i,i<n→(wr.cell? ⟨g,off+i,none⟩).isSome=true∧wr.frozen? ⟨g,off+i,none⟩=false) (h3:g<wr.heap.size) (h4:Ext (fun b=>b=g) w1 wr) :
  vy w1 g off n (.int .i64 ((k+1:Nat):Int)) (wr.setCell ⟨g,off+k,none⟩ v):=by
 refine ⟨k+1,hk,rfl,fun i j => ?_,by rw [size_setCell];exact h3,h4.setCell _ _ (.inl rfl)⟩
 obtain ⟨hs,l⟩:=h1 i j
 refine ⟨?_,by rw [eN];exact l⟩
 by_cases d:i=k
 ·subst d
  obtain ⟨x,m⟩:=cC.1 hs
  rw [World.cell?_setCell_same (h:=m)]
  rfl
 ·rw [cH (h:=by simp <;> omega)]
  exact hs
def Bd (r:Option (List UInt8)):Value := .tuple #[.string ⟨(r.getD []).toArray⟩,.bool r.isSome]
theorem EC (M:Nat→Prop) (X:Nat) (H:fP) (p:PAg) (w:World) (S:HostX w M X H (some p)) (hf:p.a.Fit) :
  Calls Tryz.prog 80 #[.pointer (some ⟨X,0,none⟩)] w fun e w'=>e = .returned (Bd p.a.next.2)∧jz w M X H (some {p with a:=p.a.next.1}) w':=by
 obtain ⟨h,a,M',o,hX,⟨F,G,O,x,hm,W⟩,Y⟩:=S.G5
 have l:=hm.ag.row
 unfold AV.cells at l
 have c4:=ae _ _ 4 _ _ _ l
 have c1:=ae _ _ 1 _ _ _ o
 have bk:=fO o
 have bl:=fO l
 have d:=hm.ag.out
 cases C:p.a.out with
 | nil =>
  rw [C] at d
  have J:=ab (vC a x.c O [] w c4 d)
  have HN:Hid (p.a.next=(p.a,none)):=ab (by unfold AgA.next;rw [C])
  have HH:=ab S
  clear S hm o l d C c4
  go_enter Tryz.func80,Tryz.ntmps80
  go_wp2_with fail
  refine J.out.mono ?_
  rintro e w1 ⟨rfl,rfl⟩
  go_wp2_with (refine gR rfl (.tmp 16) rfl [] (by exact BytesAt.nil _ _ _) ?_)
  refine wp_loop_rounds 1 ?_
  rw [rounds_succ]
  go_wp2
  go_ret2
  rw [HN.out]
  exact ⟨rfl,HH.out.go⟩
 | cons b out =>
  rw [C] at d
  have J:=ab (vC a x.c O (b::out) w c4 d)
  have HN:Hid (p.a.next=({p.a with out:=out},some b)):=ab (by unfold AgA.next;rw [C])
  have bn:b.length≤13:=hf.olen b (by rw [C];simp)
  have s:=ab hm
  have av:=ab o
  have y:=ab W
  have B:=ab Y
  clear S hm o l d C c4 W Y
  go_enter Tryz.func80,Tryz.ntmps80
  go_wp2_with fail
  refine J.out.mono ?_
  rintro e w1 ⟨u,rfl,q,d,r⟩
  obtain ⟨N,bc,Z⟩:=q
  have aa:=N.bytes
  obtain ⟨-,bo | ⟨g,off,cap,rfl,-,Q,br,-,U,D⟩⟩:=N
  ·omega
  have E:=Z g rfl
  have ak:=s.out.ag.outs (O':=fun j=>O j∧(Value.slice (some ⟨g,off,none⟩) b.length cap).ownBlock≠some j) d r (fun k hk=>aC (s.out.ag.olt k hk.1) r.size) (fun k hk => .inl hk.1)
  have R:=s.out.ag.gin.2.2.2
  have al:ic w1 F G (fun j=>O j∧(Value.slice (some ⟨g,off,none⟩) b.length cap).ownBlock≠some j) a h H {p with a := {p.a with out:=out}} x:=⟨s.out.host.ext r fun k hk e=>s.out.fg k hk (e▸R),ak,s.out.fg,fun k hk e=>s.out.fo k hk e.1⟩
  have aE:=ab al
  have a0:=ab r
  have a1:=ab aa
  have a2:X≠x.c:=fun e=>(B.out x.c (y.out _ (.inr (.inl R)))).2 e.symm
  have a3:X≠g:=fun e=>(B.out g (y.out _ (.inr (.inr E)))).2 e.symm
  have a4:=ab (r.at a2 av.out)
  have h0:vy w1 g off b.length (.int .i64 0) w1:=⟨0,aM _,rfl,fun i hi=>D i (by omega),Q,Ext.refl _ _⟩
  clear d r al ak aa Z c1 U D
  go_wp2_with (refine gR rfl (.tmp 16) rfl b (by exact a1.out) ?_)
  go_loopw [20] (fun i wr=>vy w1 g off b.length i wr) (fun i _=>b.length-(intOf i).toNat)
  case atStart=>exact h0
  case round =>
   clear h0
   obtain ⟨k,hk,rfl,q,Q,V⟩:=hrel
   by_cases am:k<b.length
   ·have be:(k:Int)<b.length:=by omega
    obtain ⟨I,hz⟩:=q k am
    obtain ⟨ov,bs⟩:=cC.1 I
    have a6:=ab q
    clear q I
    go_wp2
    exact ⟨vy.step am a6.out Q V,by simp [intOf];omega⟩
   ·obtain rfl:k=b.length:=by omega
    have bt:¬(b.length:Int)<b.length:=by omega
    clear q
    go_wp2
    go_ret2
    rw [HN.out]
    refine ⟨rfl,M,⟨h,_,V.at a3 a4.out,hX,a,M',rfl,⟨F,G,_,x,aE.out.frame V fun j m e => ?_,fun j m=>y.out j (m.imp id fun m=>m.imp id fun m=>m.1)⟩,B.out⟩,fun j => .inl,?_⟩
    ·have e':j=g:=e
     subst e'
     rcases m with m | m | m
     ·exact s.out.fo j m E
     ·exact s.out.ag.sep j m E
     ·exact m.2 rfl
    ·exact (a0.out.mono fun j e=>(B.out j (y.out j (.inr (.inl (e▸R))))).1).trans (V.mono fun j e=>(B.out j (y.out j (.inr (.inr (e▸E))))).1)
def su (p:PAg):Nat×Nat×Nat:=match p.a.deg with
 | none=>(0,0,0)
 | some f=>(f.1,f.2,if f.1=12 then p.sec else 0)
theorem xD (M:Nat→Prop) (X:Nat) (H:fP) (p:PAg) (w:World) (hh:HostX w M X H (some p)) (hd:∀ f,p.a.deg=some f→1≤f.1∧f.1≤14∧p.sec≤100000) (S:ErrVar w) :
  Calls Tryz.prog 41 #[.pointer (some ⟨X,0,none⟩)] w fun e w'=>e = .returned (nZ (su p).1 (su p).2.1 (su p).2.2)∧Below w.heap.size w w':=by
 obtain ⟨h,a,M',D,-,⟨F,G,O,x,hm,-⟩,-⟩:=hh.G5
 have r:Below w.heap.size w (w.alloc (.cells #[.int .i64 0,.int .i64 0,.int .i64 0] 34)):=(Below.rf w).alloc (af _) _
 have E:=ab (fR w (.cells #[.int .i64 0,.int .i64 0,.int .i64 0] 34))
 have J:=fQ r (fO D) D
 have c1:=ae _ _ 1 _ _ _ J
 have a0:=fO J
 have U:=ab (vB a h p x G O _ (hm.ag.below r))
 have V:=ab (S.new r)
 have N:=ab r
 have HD:=ab hd
 clear hh hm D r J S hd
 go_enter Tryz.func41,Tryz.ntmps41
 go_wp2_with fail
 refine U.out.mono ?_
 rintro e w1 ⟨W,I⟩
 generalize w.alloc (.cells #[.int .i64 0,.int .i64 0,.int .i64 0] 34)=w0 at *
 have m:=ab W
 clear W c1 a0 U
 cases i:p.a.deg with
 | none =>
  rw [i] at I
  obtain rfl:e = .returned .nilIface:=I
  have Q:Hid (su p=(0,0,0)):=ab (by unfold su;rw [i])
  clear i
  go_wp2_with fail
  refine (oW _).mono ?_
  rintro e w3 ⟨rfl,j⟩
  have d:=fQ (m.out.tn j) (fO E.out) E.out
  have s:=ab d
  have o:=ab (N.out.tn (m.out.tn j))
  have Y:=ae _ _ 0 _ _ _ d
  have Z:=ae _ _ 1 _ _ _ d
  have aa:=ae _ _ 2 _ _ _ d
  have ak:=aj _ _ 0 _ _ d
  have al:=aj _ _ 1 _ _ d
  have am:=aj _ _ 2 _ _ d
  have ap:=fO d
  clear j d
  go_wp2
  have l:=nz s.out (.int .i64 (0)) (.int .i64 (0)) (.int .i64 (0))
  have u:=ae _ _ 0 _ _ _ l
  have y:=ae _ _ 1 _ _ _ l
  have B:=ae _ _ 2 _ _ _ l
  have q:Ext (fun k=>k=w.heap.size) w3 (oK w3 w.heap.size (.int .i64 (0)) (.int .i64 (0)) (.int .i64 (0))):=mh w3 w.heap.size _ _ _
  unfold oK at u y B q
  refine aI (v := .agg #[.int .i64 (0),.int .i64 (0),.int .i64 (0)]) (by simp [results,Tryz.results41,go_sem,u,y,B]) rfl ?_
  refine ⟨?_,o.out.trans (q.below o.out.size fun k hk e=>by have e':k=w.heap.size:=e;omega)⟩
  rw [Q.out]
  rfl
 | some f =>
  rw [i] at I
  obtain ⟨ev,rfl,b,rfl,I⟩:=I
  obtain ⟨k1,k2,k3⟩:=HD.out f i
  rcases I with ⟨C,R⟩ | ⟨C,c,R,hc⟩
  ·have Q:Hid (su p=(f.1,f.2,0)):=ab (by unfold su;rw [i];simp only;rw [au C])
   have HP:=ab (mQ b (f.1:Nat) (f.2:Nat) w1 (V.out.new m.out) R (by omega) (by omega))
   clear i R C
   go_wp2_with fail
   refine HP.out.mono ?_
   rintro e w3 ⟨rfl,j⟩
   have d:=fQ (m.out.tn j) (fO E.out) E.out
   have s:=ab d
   have o:=ab (N.out.tn (m.out.tn j))
   have Y:=ae _ _ 0 _ _ _ d
   have Z:=ae _ _ 1 _ _ _ d
   have aa:=ae _ _ 2 _ _ _ d
   have ak:=aj _ _ 0 _ _ d
   have al:=aj _ _ 1 _ _ d
   have am:=aj _ _ 2 _ _ d
   have ap:=fO d
   clear j d
   go_wp2
   have l:=nz s.out (.int .i64 (((f.1:Nat):Int))) (.int .i64 (((f.2:Nat):Int))) (.int .i64 (0))
   have u:=ae _ _ 0 _ _ _ l
   have y:=ae _ _ 1 _ _ _ l
   have B:=ae _ _ 2 _ _ _ l
   have q:Ext (fun k=>k=w.heap.size) w3 (oK w3 w.heap.size (.int .i64 (((f.1:Nat):Int))) (.int .i64 (((f.2:Nat):Int))) (.int .i64 (0))):=mh w3 w.heap.size _ _ _
   unfold oK at u y B q
   refine aI (v := .agg #[.int .i64 (((f.1:Nat):Int)),.int .i64 (((f.2:Nat):Int)),.int .i64 (0)]) (by simp [results,Tryz.results41,go_sem,u,y,B]) rfl ?_
   refine ⟨?_,o.out.trans (q.below o.out.size fun k hk e=>by have e':k=w.heap.size:=e;omega)⟩
   rw [Q.out]
   rfl
  ·have Q:Hid (su p=(f.1,f.2,p.sec)):=ab (by unfold su;rw [i];simp only;rw [aD C])
   have HP:=ab (rz b c (f.1:Nat) (f.2:Nat) p.sec w1 (V.out.new m.out) R hc k3 (by omega) (by omega))
   clear i R hc C
   go_wp2_with fail
   refine HP.out.mono ?_
   rintro e w3 ⟨rfl,j⟩
   have d:=fQ (m.out.tn j) (fO E.out) E.out
   have s:=ab d
   have o:=ab (N.out.tn (m.out.tn j))
   have Y:=ae _ _ 0 _ _ _ d
   have Z:=ae _ _ 1 _ _ _ d
   have aa:=ae _ _ 2 _ _ _ d
   have ak:=aj _ _ 0 _ _ d
   have al:=aj _ _ 1 _ _ d
   have am:=aj _ _ 2 _ _ d
   have ap:=fO d
   clear j d
   go_wp2
   have l:=nz s.out (.int .i64 (((f.1:Nat):Int))) (.int .i64 (((f.2:Nat):Int))) (.int .i64 (((p.sec:Nat):Int)))
   have u:=ae _ _ 0 _ _ _ l
   have y:=ae _ _ 1 _ _ _ l
   have B:=ae _ _ 2 _ _ _ l
   have q:Ext (fun k=>k=w.heap.size) w3 (oK w3 w.heap.size (.int .i64 (((f.1:Nat):Int))) (.int .i64 (((f.2:Nat):Int))) (.int .i64 (((p.sec:Nat):Int)))):=mh w3 w.heap.size _ _ _
   unfold oK at u y B q
   refine aI (v := .agg #[.int .i64 (((f.1:Nat):Int)),.int .i64 (((f.2:Nat):Int)),.int .i64 (((p.sec:Nat):Int))]) (by simp [results,Tryz.results41,go_sem,u,y,B]) rfl ?_
   refine ⟨?_,o.out.trans (q.below o.out.size fun k hk e=>by have e':k=w.heap.size:=e;omega)⟩
   rw [Q.out]
   rfl
end Go.Proofs.YtkkfmkhbdoeglabGreatDoor
namespace Go.Proofs.YtkkfmkhbdoeglabGreatDoor
open Go.RowKit Go.Shelf
theorem FI (X h:Nat) (j:Value) (F:Nat→Prop) (x:HV) (H:fP) (n:Int) (w:World) (h1:w.heap[X]?=some (.cells #[.pointer (some ⟨h,0,none⟩),j] 136 (0,0))) (h2:gT w F h x H) (q:n≤9223372036854775807) :
  Calls Tryz.prog 44 #[.pointer (some ⟨X,0,none⟩),.int .i64 n] w fun e w'=>e = .returned (.tuple #[])∧gT w' F h {x with left:=max n (-1)} {H with dp := {H.dp with left:=max n (-1)}}∧Ext (fun k=>k=h) w w'∧w'.heap.size=w.heap.size:=by
 have b:w.heap[h]?=_:=h2.dp.row
 have l:=ab b
 unfold HV.cells at b
 have c0:=ae _ _ 0 _ _ _ h1
 have d3:=ae _ _ 3 _ _ _ b
 have z3:=aj _ _ 3 _ _ b
 have m:=fO h1
 have o:=fO b
 have d:=ab h2
 clear h1 h2 b
 go_enter Tryz.func44,Tryz.ntmps44
 go_wp2
 go_end0
 have i:Ext (fun k=>k=h) w (w.setCell ⟨h,3,none⟩ (.int .i64 (max n (-1)))):=(Ext.refl _ w).setCell ⟨h,3,none⟩ _ (.inl rfl)
 refine ⟨rfl,d.out.row (heap_setCell _ _ 3 _ l.out) (size_setCell _ _ _) i ⟨rfl,rfl,rfl,rfl,rfl,rfl⟩ ⟨rfl,rfl,rfl,rfl,rfl,rfl⟩ ⟨rfl,d.out.dp.dead,d.out.fail,d.out.writes⟩ ?_,i,size_setCell _ _ _⟩
 show -1≤max n (-1)∧max n (-1)≤_
 omega
theorem Ev (X h:Nat) (j:Value) (F:Nat→Prop) (x:HV) (H:fP) (n:Int) (w:World) (h1:w.heap[X]?=some (.cells #[.pointer (some ⟨h,0,none⟩),j] 136 (0,0))) (h2:gT w F h x H) :
  Calls Tryz.prog 94 #[.pointer (some ⟨X,0,none⟩),.int .i64 n] w fun e w'=>e = .returned (.tuple #[])∧gT w' F h {x with fail:=max n (-1)} {H with fail:=max n (-1)}∧Ext (fun k=>k=h) w w'∧w'.heap.size=w.heap.size:=by
 have b:w.heap[h]?=_:=h2.dp.row
 have l:=ab b
 unfold HV.cells at b
 have c0:=ae _ _ 0 _ _ _ h1
 have d3:=ae _ _ 4 _ _ _ b
 have z3:=aj _ _ 4 _ _ b
 have m:=fO h1
 have o:=fO b
 have d:=ab h2
 clear h1 h2 b
 go_enter Tryz.func94,Tryz.ntmps94
 go_wp2
 go_end0
 have i:Ext (fun k=>k=h) w (w.setCell ⟨h,4,none⟩ (.int .i64 (max n (-1)))):=(Ext.refl _ w).setCell ⟨h,4,none⟩ _ (.inl rfl)
 exact ⟨rfl,d.out.row (heap_setCell _ _ 4 _ l.out) (size_setCell _ _ _) i ⟨rfl,rfl,rfl,rfl,rfl,rfl⟩ ⟨rfl,rfl,rfl,rfl,rfl,rfl⟩ ⟨d.out.dp.left,d.out.dp.dead,rfl,d.out.writes⟩ d.out.dp.lb,i,size_setCell _ _ _⟩
theorem Ha (a:Int):bits BinOp.and IntKind.i64 a 1=a%2:=by
 show IntKind.i64.wrap (((BitVec.ofInt 64 a &&& BitVec.ofInt 64 1).toNat:Nat):Int)=a%2
 rw [BitVec.toNat_and,show (BitVec.ofInt 64 1).toNat=1 from rfl,Nat.and_one_is_mod,BitVec.toNat_ofInt]
 have h:(((a%((2^64:Nat):Int)).toNat%2:Nat):Int)=a%2:=by omega
 rw [h]
 have h2:a%2=((a%2).toNat:Int):=by omega
 rw [h2]
 exact IntWalk.i64_in _ (by omega)
theorem Ic (mask:Int) (k:Nat):(bits BinOp.and IntKind.i64 (mask / 2^(k%60)) 1==1)=pI mask k:=by
 rw [Ha]
 unfold pI
 rfl
theorem oP.op {w w':World} {M:Nat→Prop} {X:Nat} {R:fP×(PAg⊕(Nat×Nat×Nat))} {e:Ending} (h:oP w M X R e w'):∃ k a s P',e = .returned (nZ k a s)∧jz w M X R.1 P' w'∧∀ b d w2,jz b d X R.1 P' w2→oP b d X R (.returned (nZ k a s)) w2:=by
 obtain ⟨H',r⟩:=R
 cases r with
 | inl p =>
  obtain ⟨h1,h2⟩:=h
  exact ⟨0,0,0,some p,h1,h2,fun _ _ _ h=>⟨rfl,h⟩⟩
 | inr y =>
  obtain ⟨k,a,s⟩:=y
  obtain ⟨h1,h2⟩:=h
  exact ⟨k,a,s,none,h1,h2,fun _ _ _ h=>⟨rfl,h⟩⟩
theorem take_set {α:Type} {A D:List α} {k:Nat} {b : α} (hk:A[k]?=some b) (hl:D.length=A.length):(A.take k++D.drop k).set k b=A.take (k+1)++D.drop (k+1):=by
 obtain ⟨d,rfl⟩:=aF.1 hk
 have h1:(A.take k).length=k:=by rw [az];omega
 rw [List.set_append_right _ _ (by omega),h1,ef,b9 (by omega),ai,aT d,bj]
 rfl
def FA (b:World) (F:Nat→Prop) (h:Nat) (x:HV) (H:fP) (A:List (List UInt8)) (k:Nat) (wr:World):Prop :=
 ∃ F',gT wr F' h {x with late := .slice none 0 0} {H with held:=A,late:=[],seen:=A.take k++H.seen.drop k}∧(∀ j,F' j→F j∨b.heap.size≤j)∧Ext F b wr
def I9 (b:World) (F:Nat→Prop) (h:Nat) (x:HV) (H:fP) (mask:Int) (k:Nat) (wr:World):Prop :=
 gT wr F h x {H with held:=applySel (pI mask) 0 (H.late.take k) H.held}∧Ext F b wr
theorem zk (n B X:Nat) (l:List Int) (M:Nat→Prop) (H:fP) (P:Option PAg) (mask cut fail:Int) (w:World) (hh:HostX w M X H P) (aa:Fine n l B H) (hV:B≤800000000) (hU:mG n l (H.again mask cut fail).seen) (_hm : -9223372036854775808≤mask∧mask≤9223372036854775807) (hc:cut≤9223372036854775807) (hf:fail≤9223372036854775807) (bD:ShapesVar w) (c3:ErrVar w) (c4:∀ k,M k→2≤k) :
  Calls Tryz.prog 47 #[.pointer (some ⟨X,0,none⟩),.int .i64 mask,.int .i64 cut,.int .i64 fail] w (oP w M X (ie (H.again mask cut fail))):=by
 obtain ⟨h,hW,F,d,hX,⟨x,a0⟩,hF,-,ap,fn⟩:=hh.host
 subst fn
 have Q:Below w.heap.size w (w.alloc (.cells #[.int .i64 0,.int .i64 0,.int .i64 0] 34)):=(Below.rf w).alloc (af _) _
 have R0:=fR w (.cells #[.int .i64 0,.int .i64 0,.int .i64 0] 34)
 have c5:=fQ Q (fO d) d
 have ak:=a0.frame Q.size fun k hk=>Q.block k (a0.lt k hk)
 have c6:=ab a0.lt
 have fp:Hid (X<w.heap.size):=ab (fO d)
 have fr:Hid (2≤w.heap.size):=ab bD.two
 have bl:Hid (F h):=ab a0.foot.1
 have fv:=ab Q
 have fB:=ab R0
 have a1:=ab c5
 have HF:=ab hF
 have bo:=ab aa
 have HO:=ab hU
 have f0:=ab (bD.new Q)
 have f1:=ab (c3.new Q)
 have br:=ab c4
 have ho:(w.alloc (.cells #[.int .i64 0,.int .i64 0,.int .i64 0] 34)).heap.size=w.heap.size+1:=aw _ _
 have hp:H.late.length≤1000000000:=aH aa.ok.ll (by omega)
 have hr:H.held.length≤1000:=by rw [aa.ok.hl];have:=aa.ok.n;omega
 have f3:=ab (fun y (hS:y∈H.late)=>(aa.ok.late y hS).2)
 clear hh d a0 Q R0 c5 hF aa hU bD c3 c4
 obtain ⟨R,hR⟩:∃ R,R=ie (H.again mask cut fail):=⟨_,rfl⟩
 have c7:=ab hR
 rw [←hR]
 clear hR
 go_enter Tryz.func47,Tryz.ntmps47
 go_upto_region 1 with fail
 generalize w.alloc (.cells #[.int .i64 0,.int .i64 0,.int .i64 0] 34)=Z at *
 have c0:=ae _ _ 0 _ _ _ a1.out
 have f4:=fO a1.out
 have f5:=ab ak
 have G:=ak.dp.row
 unfold HostIs HV.cells at G
 obtain ⟨la,e1,bH,hs,-⟩:=ak.late.get
 have c8:=ab bH
 rw [bH] at G
 have d2:=ae _ _ 2 _ _ _ G
 have f6:=fO G
 clear ak G bH
 go_upto_region 3 with fail
 clear c0 d2 f4 f6
 go_loopw [22] (fun i wr=>∃ k:Nat,k≤H.late.length∧i = .int .i64 (k:Int)∧I9 Z F h x H mask k wr) (fun i _=>H.late.length-(intOf i).toNat)
 case atStart=>exact ⟨0,aM _,rfl,f5.out,Ext.refl _ _⟩
 case round =>
  obtain ⟨k,hk,rfl,hrel⟩:=hrel
  obtain ⟨J,c9⟩:=hrel
  have o:=ab J
  have bI:=ab c9
  have d:=J.dp.row
  unfold HostIs HV.cells at d
  have da:=fO d
  by_cases bs:k<H.late.length
  ·obtain ⟨b,hb⟩:∃ b,b=H.late[k]:=⟨_,rfl⟩
   have bL:H.late[k]?=some b:=by rw [hb];exact ay bs
   have bM:b.2<H.held.length:=f3.out b (by rw [hb];exact cD bs)
   obtain ⟨ht,cu,bN,-,S⟩:=J.late.get
   obtain ⟨g0,off,u,rfl,d0,d1,r⟩:=S k b bL
   have hP:Value.slice la H.late.length e1 = .slice (some ⟨g0,off,none⟩) H.late.length cu:=c8.out.symm.trans bN
   obtain ⟨rfl,-,rfl⟩:=Value.slice.inj hP
   have hlen:(applySel (pI mask) 0 (H.late.take k) H.held).length=H.held.length:=nj _ _ _ _
   obtain ⟨gs,os,cap,u0,U,s0,sf,⟨Cg,f7,bS⟩,f8⟩:=J.held.store (n:=b.2) (by show _<(applySel (pI mask) 0 (H.late.take k) H.held).length;rw [hlen];exact bM)
   have bX:x.held = .slice (some ⟨gs,os,none⟩) H.held.length cap:=by rw [←hlen];exact U
   obtain ⟨V,W,a7,-,-⟩:=r.1.opened
   subst a7
   rw [bX] at d
   have c0:wr.cell? ⟨h,0,none⟩=some (.slice (some ⟨gs,os,none⟩) H.held.length cap):=ae _ _ 0 _ _ _ d
   have dc:=fU d0
   have am:gs<wr.heap.size:=fU s0
   obtain ⟨O,bn⟩:=b
   simp only at bM d0 d1 s0 sf r
   have g1:(k:Int)<H.late.length:=by omega
   have g2:(bn:Int)<H.held.length:=by omega
   have a9:=ab r
   have bt:=ab U
   have b0:=ab bL
   have e2:=ab hlen
   have f9:=ab bM
   clear J c9 d hb bL S bN hP hlen U bX r bS
   have N:Hid (Below wr.heap.size wr (wr.alloc (.cells #[.int .i64 (bn:Int),.slice V O.length W] 157))):=ab ((Below.refl _ wr).alloc (af _) _)
   have ag:applySel (pI mask) 0 (H.late.take (k+1)) H.held=if pI mask k then (applySel (pI mask) 0 (H.late.take k) H.held).set bn O else applySel (pI mask) 0 (H.late.take k) H.held:=by
    rw [mD _ _ b0.out,oH,az,Nat.min_eq_left (by omega),bG]
   have hq:=Ic mask k
   cases av:pI mask k with
   | false =>
    rw [av] at hq ag
    have b1:=ab ag
    clear ag av
    go_wp2
    refine ⟨⟨k+1,by omega,by go_num,⟨?_,(bI.out.trans (Ext.fT N.out))⟩⟩,by simp [intOf];omega⟩
    rw [b1.out]
    exact o.out.frame N.out.size fun j m=>N.out.block j (o.out.lt j m)
   | true =>
    rw [av] at hq ag
    have b1:=ab ag
    clear ag av
    have Y:=fR wr (.cells #[.int .i64 (bn:Int),.slice V O.length W] 157)
    have ga:=gC (.cells #[.int .i64 (bn:Int),.slice V O.length W] 157) c0
    have dk:=gC (.cells #[.int .i64 (bn:Int),.slice V O.length W] 157) s0
    have gb:(wr.alloc (.cells #[.int .i64 (bn:Int),.slice V O.length W] 157)).frozen? ⟨gs,os+bn,none⟩=false:=(cT (w:=wr) (a:=⟨gs,os+bn,none⟩) (heap_alloc_old wr _ am)).trans sf
    go_upto_region 6 with fail
    obtain ⟨wa,dl⟩:∃ wa,wa=wr.alloc (.cells #[.int .i64 (bn:Int),.slice V O.length W] 157):=⟨_,rfl⟩
    rw [←dl] at N Y ga dk gb⊢
    have n0:wa.cell? ⟨wr.heap.size,0,none⟩=some (.int .i64 (bn:Int)):=ae _ _ 0 _ _ _ Y
    have n1:wa.cell? ⟨wr.heap.size,1,none⟩=some (.slice V O.length W):=ae _ _ 1 _ _ _ Y
    have b2:=ab (o.out.frame N.out.size fun k hk=>N.out.block k (o.out.lt k hk))
    have gc:=ab (bI.out.trans (Ext.fT N.out))
    have hu:gs<wa.heap.size:=fU dk
    have hv:gs≠wr.heap.size:=by omega
    have hw:=fO Y
    have hg:=fO b2.out.dp.row
    clear dl c0 s0 sf d0 d1 da dc Y
    go_region
    go_wp2
    have bb:=b2.out.DO (w':=wa.setCell ⟨gs,os+bn,none⟩ (.slice V O.length W)) (F':=F) (n:=bn) (s:=O) (u := .slice V O.length W) bt.out (by show bn<(applySel (pI mask) 0 (H.late.take k) H.held).length;rw [e2.out];exact f9.out)
     (a9.out.gr fun j C fz m _=>N.out.block j (fO m)) (fun _ h=>h) b2.out.lt rfl
    obtain ⟨q1,q2,q3⟩:=bb
    refine ⟨⟨k+1,by omega,by go_num,?_,(gc.out.trans q3).drew⟩,by simp [intOf];omega⟩
    have q4:=q1.frame (w':=(wa.setCell ⟨gs,os+bn,none⟩ (.slice V O.length W)).drew) (af _) (fun _ _=>rfl)
    rw [b1.out,aD rfl]
    exact q4
  ·obtain rfl:k=H.late.length:=by omega
   have g1:¬(H.late.length:Int)<H.late.length:=by omega
   rw [c8.out] at d
   have c2:=ae _ _ 2 _ _ _ d
   have f2:=aj _ _ 2 _ _ d
   have c0:=ae _ _ 0 _ _ _ d
   clear d
   rw [bC] at o
   obtain ⟨A,hQ⟩:∃ A,A=applySel (pI mask) 0 H.late H.held:=⟨_,rfl⟩
   rw [←hQ] at o
   have dn:A.length=H.held.length:=by rw [hQ];exact nj _ _ _ _
   have HA:=ab hQ
   have e4:Hid (∀ b∈A,b.length=64):=ab (by rw [hQ];exact pg _ (fun b=>b.length=64) _ _ _ (fun y hS=>(bo.out.ok.late y hS).1) bo.out.ok.h64)
   have hj:H.seen.length=H.held.length:=bo.out.ok.hl.symm
   have b4:=o.out.IZ (w1:=wr.setCell ⟨h,2,none⟩ (.slice none 0 0)) (x' := {x with late := .slice none 0 0}) (H' := {H with held:=A,late:=[],seen:=A.take 0++H.seen.drop 0})
    (heap_setCell _ _ 2 _ o.out.dp.row) (size_setCell _ _ _) ((Ext.refl _ wr).setCell _ _ (.inl rfl)) ⟨rfl,rfl,rfl,rfl,rfl⟩ ⟨rfl,rfl,rfl,rfl,rfl⟩ ⟨o.out.dp.left,o.out.dp.dead,o.out.fail,o.out.writes⟩ o.out.dp.lb (LateAt.nil _ _)
   have ds:Ext F Z (wr.setCell ⟨h,2,none⟩ (.slice none 0 0)):=bI.out.setCell _ _ (.inl o.out.foot.1)
   obtain ⟨ha,e5,U,-,-⟩:=o.out.held.get
   rw [U] at c0
   simp only [dn] at c0
   have bt:=ab U
   have ge:=ab (⟨F,b4,fun j => .inl,ds⟩:FA Z F h x H A 0 _)
   clear hQ b4 ds U
   go_upto_region 10 with fail
   clear c0 c2 f2 da
   generalize wr.setCell ⟨h,2,none⟩ (.slice none 0 0)=w5 at *
   go_loopw [51] (fun i wr=>∃ k:Nat,k≤H.held.length∧i = .int .i64 (k:Int)∧FA Z F h x H A k wr) (fun i _=>H.held.length-(intOf i).toNat)
   case atStart=>exact ⟨0,aM _,rfl,ge.out⟩
   case round =>
    obtain ⟨k,hk,rfl,hrel⟩:=hrel
    obtain ⟨F',a3,dv,dT⟩:=hrel
    have E:=ab a3
    have b5:=ab dT
    have b6:=ab dv
    have d:=a3.dp.row
    unfold HostIs HV.cells at d
    have d3:=fO d
    have b7:(A.take k++H.seen.drop k).length=H.held.length:=by rw [aq,az,bg];omega
    by_cases bs:k<H.held.length
    ·obtain ⟨b,hb⟩:∃ b,A[k]?=some b:=⟨A[k]'(by omega),ay (by omega)⟩
     have be:b.length=64:=e4.out b (aV hb)
     obtain ⟨hx,cB,b8,-,S⟩:=a3.held.get
     obtain ⟨g0,off,u,rfl,d0,r⟩:=S k b hb
     have hP:Value.slice ha A.length e5 = .slice (some ⟨g0,off,none⟩) A.length cB:=bt.out.symm.trans b8
     obtain ⟨rfl,-,rfl⟩:=Value.slice.inj hP
     obtain ⟨gs,os,cap,u0,ca,s0,sf,⟨Cg,f7,bS⟩,f8⟩:=a3.seen.store (n:=k) (by show k<(A.take k++H.seen.drop k).length;omega)
     have bi:x.seen = .slice (some ⟨gs,os,none⟩) (A.take k++H.seen.drop k).length cap:=ca
     rw [b7] at bi
     obtain ⟨V,W,a7,-,-⟩:=r.1.opened
     subst a7
     rw [be] at d0 r
     have c0:=ae _ _ 0 _ _ _ d
     have c1:=ae _ _ 1 _ _ _ d
     rw [bt.out] at c0
     simp only [dn] at c0
     simp only [bi] at c1
     have dc:g0<wr.heap.size:=fU d0
     have am:gs<wr.heap.size:=fU s0
     have g1:(k:Int)<H.held.length:=by omega
     have a9:=ab r
     have gf:=ab ca
     have b0:=ab hb
     have gg:=ab b7
     have hy:(64:Nat)≤gF:=by decide
     have cb:=ab be
     clear a3 dT dv d hb S b8 hP b7 ca bi r bS be
     go_upto_region 12 with fail
     go_region_law
      ((first
        | (refine lB rfl (.const (.slice none 0 0)) (.tmp 65) rfl wr.heap.size (.slice none 0 0) 0 [] rfl (OwnS.nil _ _ _) (CellsOf.nil _ _) b (by exact a9.out.1) (by rw [cb.out];omega) (af _) ?_;intro v7 w7 I hz e6 bv;
           rw [cb.out,bG] at I;obtain ⟨d4,d6,rfl⟩:=I.shape;
           have d7:w7.cell? ⟨gs,os+k,none⟩=some u0:=(bv.cell (p:=⟨gs,os+k,none⟩) am).trans s0;
           have gl:w7.frozen? ⟨gs,os+k,none⟩=false:=(cT (w:=wr) (a:=⟨gs,os+k,none⟩) (bv.block gs am)).trans sf;
           have d8:w7.cell? ⟨h,1,none⟩=some (.slice (some ⟨gs,os,none⟩) H.held.length cap):=(bv.cell (p:=⟨h,1,none⟩) d3).trans c1;
           have gn:=fU d7;have e7:=fU d8)))
     all_goals
      have aE:Below wr.heap.size wr w7:=(Below.rf wr).drew.trans bv
      have a4:=(E.out.frame aE.size fun j m=>aE.block j (E.out.lt j m))
      have bb:=a4.DY (w':=w7.setCell ⟨gs,os+k,none⟩ (.slice d4 64 d6)) (F':=fun j=>F' j∨(wr.heap.size≤j∧j<w7.heap.size)) (n:=k) (s:=b) (u := .slice d4 64 d6) gf.out (by show k<(A.take k++H.seen.drop k).length;rw [gg.out];exact bs)
       ⟨(by have:=I.bytes;exact this),e6,fun j e => .inr ⟨I.gh j e,I.gP j e⟩⟩ (fun j m => .inl m) (fun j m=>m.elim (fun m=>aC (E.out.lt j m) aE.size) fun m=>m.2) rfl
      obtain ⟨q1,q2,q3⟩:=bb
      have d9:(A.take k++H.seen.drop k).set k b=A.take (k+1)++H.seen.drop (k+1):=take_set b0.out (by omega)
      rw [d9] at q1
      clear d7 gl d8 gn e7 d9 a4
      go_wp2
      refine ⟨⟨k+1,by omega,by go_num,⟨_,q1,fun j m => ?_,?_⟩⟩,by simp [intOf];omega⟩
      ·rcases m with m | m
       ·exact b6.out j m
       ·exact .inr (aH b5.out.size m.1)
      ·exact (b5.out.trans (Ext.fT aE)).trans' q3 b6.out
    ·obtain rfl:k=H.held.length:=by omega
     have g1:¬(H.held.length:Int)<H.held.length:=by omega
     have ea:A.take H.held.length++H.seen.drop H.held.length=A:=by rw [aQ (by omega),fJ (by omega),cM]
     rw [ea] at E
     have d5:=ae _ _ 5 _ _ _ d
     have z5:=aj _ _ 5 _ _ d
     have a4:Ext (fun i=>i=h) wr (wr.setCell ⟨h,5,none⟩ (.bool false)):=(Ext.refl (fun i=>i=h) wr).setCell ⟨h,5,none⟩ _ (.inl rfl)
     have eb:=E.out.row (w1:=wr.setCell ⟨h,5,none⟩ (.bool false)) (x' := {x with late := .slice none 0 0,dead:=false}) (H' := {H with held:=A,late:=[],seen:=A,dp := {H.dp with dead:=false}}) (heap_setCell _ _ 5 _ E.out.dp.row) (size_setCell _ _ _) a4 ⟨rfl,rfl,rfl,rfl,rfl,rfl⟩ ⟨rfl,rfl,rfl,rfl,rfl,rfl⟩ ⟨E.out.dp.left,rfl,E.out.fail,E.out.writes⟩ E.out.dp.lb
     have ec:X≠h:=fun e=>(HF.out h bl.out).2 e.symm
     have ce:Ext F Z (wr.setCell ⟨h,5,none⟩ (.bool false)):=b5.out.setCell ⟨h,5,none⟩ _ (.inl bl.out)
     have ed:=ce.at (fun e=>(HF.out X e).2 rfl) a1.out
     have go:=ab (FI X h (.pointer ap) F' _ _ cut _ ed eb hc)
     have hA:=ab ec
     have gp:=ab ce
     clear d a4 eb ce ed ec ea
     go_wp2_with fail
     refine go.out.mono ?_
     rintro e w8 ⟨rfl,eg,ej,gq⟩
     have ci:Ext F Z w8:=gp.out.trans (ej.mono fun j e=>e▸bl.out)
     have el:=ci.at (fun e=>(HF.out X e).2 rfl) a1.out
     have gt:=ab (Ev X h (.pointer ap) F' _ _ fail _ el eg)
     have gu:=ab ci
     clear eg ej gq ci el d5 z5 d3
     go_wp2_with fail
     refine gt.out.mono ?_
     rintro e w9 ⟨rfl,cl,em,bw⟩
     have a5:Ext F Z w9:=gu.out.trans (em.mono fun j e=>e▸bl.out)
     have en:=a5.at (fun e=>(HF.out X e).2 rfl) a1.out
     have er:=c6.out
     have bx:Ext M Z w9:=a5.mono fun j m=>(HF.out j m).1
     have hB:=fp.out
     have hC:=fr.out
     have eC:=a5.at (fun e=>dA _ (er _ e)) fB.out
     have bw:=a5.size
     have gv:=ab (wj n B X h l (fun j=>(F j∨j=X)∨Z.heap.size≤j) F' (H.again mask cut fail) (.pointer ap) w9 en (.inl (.inr rfl)) ⟨_,by rw [HA.out] at cl;exact cl⟩ (fun j m=>by
       rcases b6.out j m with q | q
       ·exact ⟨.inl (.inl q),(HF.out j q).2⟩
       ·exact ⟨.inr q,by omega⟩) (bo.out.again mask cut fail hc hf) hV HO.out (f0.out.ext bx br.out) (f1.out.ext bx br.out) (fun j m=>by
       rcases m with (q | q) | q
       ·exact br.out j (HF.out j q).1
       ·exact q▸br.out X hX
       ·omega))
     have gz:=ab bx
     have g3:=ab eC
     have g4:=ab bw
     clear cl em a5 en bx eC bw er
     go_wp2_with fail
     refine gv.out.mono ?_
     rintro e co cp
     rw [←c7.out] at cp
     obtain ⟨kk,hT,ss,P',rfl,⟨M3,J,eD,bk⟩,cq⟩:=cp.op
     have cr:¬((F w.heap.size∨w.heap.size=X)∨Z.heap.size≤w.heap.size):=fun e=>by
      rcases e with (e | e) | e
      ·exact dA _ (c6.out _ e)
      ·omega
      ·omega
     have D:=bk.at cr g3.out
     have fc:=ab D
     have fd:=ab cq
     have fg:=ab J
     have eS:=ab eD
     have fi:=ab bk
     have g5:=ab cr
     have hD:=ae _ _ 0 _ _ _ D
     have hE:=ae _ _ 1 _ _ _ D
     have hG:=ae _ _ 2 _ _ _ D
     have hH:=aj _ _ 0 _ _ D
     have hI:=aj _ _ 1 _ _ D
     have hJ:=aj _ _ 2 _ _ D
     have hL:=fO D
     clear cp J eD bk cq cr D c7
     unfold nZ
     go_wp2
     have cs:=nz fc.out (.int .i64 (kk:Nat)) (.int .i64 (hT:Nat)) (.int .i64 (ss:Nat))
     have q0:=ae _ _ 0 _ _ _ cs
     have q1:=ae _ _ 1 _ _ _ cs
     have q2:=ae _ _ 2 _ _ _ cs
     have ct:Ext (fun k=>k=w.heap.size) co (oK co w.heap.size (.int .i64 (kk:Nat)) (.int .i64 (hT:Nat)) (.int .i64 (ss:Nat))):=mh co w.heap.size _ _ _
     unfold oK at q0 q1 q2 ct
     refine aI (v:=nZ kk hT ss) (by simp [results,Tryz.results47,go_sem,q0,q1,q2,nZ]) rfl ?_
     have bw:=g4.out
     refine fd.out _ _ _ ⟨M3,fg.out.frame ct fun j m e => ?_,fun j m => ?_,?_⟩
     ·have e':j=w.heap.size:=e
      subst e'
      rcases eS.out _ m with q | q
      ·exact g5.out q
      ·omega
     ·rcases eS.out _ m with ((q | q) | q) | q
      ·exact .inl (HF.out j q).1
      ·exact .inl (q▸hX)
      ·exact .inr (by omega)
      ·exact .inr (by omega)
     ·refine ((((Ext.fT fv.out).trans gz.out).trans' fi.out fun j m => ?_).trans' ct fun j e => .inr (by have e':j=w.heap.size:=e;omega))
      rcases m with (q | q) | q
      ·exact .inl (HF.out j q).1
      ·exact .inl (q▸hX)
      ·exact .inr (by omega)
end Go.Proofs.YtkkfmkhbdoeglabGreatDoor
namespace Go.Proofs.YtkkfmkhbdoeglabGreatDoor
open Go.RowKit Go.Shelf
structure lR (w:World) (K:Nat→Prop) (X:Nat) (H:fP) (P:Option PAg):Prop where
 host:∃ M,HostX w M X H P∧∀ k,M k→¬K k
 sh:ShapesVar w
 er:ErrVar w
 lo:∀ k,k<2→K k
 lt:∀ k,K k→k<w.heap.size
abbrev jD (K:Nat→Prop) (w w':World):Prop:=Ext (fun k=>¬K k) w w'
theorem lR.below {w w':World} {K:Nat→Prop} {X:Nat} {H:fP} {P:Option PAg} (h:lR w K X H P) (b:Below w.heap.size w w'):lR w' K X H P:=by
 obtain ⟨⟨M,h1,h2⟩,h3,h4,h5,h6⟩:=h
 exact ⟨⟨M,h1.below b,h2⟩,h3.new b,h4.new b,h5,fun k hk=>aC (h6 k hk) b.size⟩
theorem lR.two {w:World} {K:Nat→Prop} {X:Nat} {H:fP} {P:Option PAg} (h:lR w K X H P) {M:Nat→Prop} (b:∀ k,M k→¬K k):∀ k,M k→2≤k:=fun k hk=>Nat.not_lt.1 fun e=>b k hk (h.lo k e)
theorem lR.mT {w w':World} {K:Nat→Prop} {X:Nat} {M:Nat→Prop} {H H':fP} {P P':Option PAg} (h:lR w K X H P) (b:∀ k,M k→¬K k) (d:jz w M X H' P' w'):lR w' K X H' P'∧jD K w w':=by
 obtain ⟨i,g1,g2,g3⟩:=d
 have j:jD K w w':=g3.mono b
 have h2:=h.two b
 exact ⟨⟨⟨i,g1,fun k hk=>(g2 k hk).elim (b k) fun e hK=>dA _ (aC (h.lt k hK) e)⟩,h.sh.ext g3 h2,h.er.ext g3 h2,h.lo,fun k hk=>aC (h.lt k hk) g3.size⟩,j⟩
theorem lR.other {w w':World} {K D:Nat→Prop} {X:Nat} {H:fP} {P:Option PAg} (h:lR w K X H P) (b:Ext D w w') (d:∀ k,D k→K k) (h2:∀ k,D k→2≤k):lR w' K X H P:=by
 obtain ⟨⟨M,h1,h3⟩,h4,h5,h6,h7⟩:=h
 exact ⟨⟨M,h1.frame b fun k hk e=>h3 k hk (d k e),h3⟩,h4.ext b h2,h5.ext b h2,h6,fun k hk=>aC (h7 k hk) b.size⟩
theorem Eb.lt {w:World} {M:Nat→Prop} {a h:Nat} {H:fP} {P:PAg} (hm:Eb w M a h H P):Eb w (fun k=>M k∧k<w.heap.size) a h H P:=by
 obtain ⟨F,G,O,x,h1,h2⟩:=hm
 exact ⟨F,G,O,x,h1,fun k hk=>⟨h2 k hk,hk.elim (h1.host.lt k) fun hk=>hk.elim (h1.ag.glt k) (h1.ag.olt k)⟩⟩
theorem HostX.bound {w:World} {M:Nat→Prop} {X:Nat} {H:fP} {P:Option PAg} (b:HostX w M X H P):HostX w (fun k=>M k∧k<w.heap.size) X H P:=by
 obtain ⟨h,d,h1,h2,h3⟩:=b
 refine ⟨h,d,h1,⟨h2,fO h1⟩,?_⟩
 cases P with
 | none =>
  obtain ⟨h4,F,h5,h6⟩:=h3
  exact ⟨h4,F,h5,fun k hk=>⟨⟨(h6 k hk).1,h5.lt k hk⟩,(h6 k hk).2⟩⟩
 | some p =>
  obtain ⟨a,i,h4,h5,h6⟩:=h3
  exact ⟨a,_,h4,h5.lt,fun k hk=>⟨⟨(h6 k hk.1).1,hk.2⟩,(h6 k hk.1).2⟩⟩
theorem lR.tD {w w':World} {K:Nat→Prop} {X:Nat} {H:fP} {P:Option PAg} (h:lR w K X H P) (b:Below w.heap.size w w') (D:Nat→Prop) (d:∀ k,D k→w.heap.size≤k∧k<w'.heap.size):lR w' (fun k=>K k∨D k) X H P:=by
 obtain ⟨⟨M,h1,h2⟩,h3,h4,h5,h6⟩:=h
 exact ⟨⟨_,h1.bound.below b,fun k hk e=>e.elim (h2 k hk.1) fun e=>by have:=(d k e).1;have:=hk.2;omega⟩,h3.new b,h4.new b,fun k hk => .inl (h5 k hk),fun k hk=>hk.elim (fun hk=>aC (h6 k hk) b.size) fun hk=>(d k hk).2⟩
theorem lR.less {w:World} {K b:Nat→Prop} {X:Nat} {H:fP} {P:Option PAg} (h:lR w K X H P) (hK:∀ k,b k→K k) (h2:∀ k,k<2→b k):lR w b X H P:=by
 obtain ⟨⟨M,h1,h3⟩,h4,h5,h6,h7⟩:=h
 exact ⟨⟨M,h1,fun k hk e=>h3 k hk (hK k e)⟩,h4,h5,h2,fun k hk=>h7 k (hK k hk)⟩
theorem lR.new {w w':World} {M:Nat→Prop} {X:Nat} {H:fP} {P:Option PAg} (j:HostX w' M X H P) (l:∀ k,M k→w.heap.size≤k) (d:Below w.heap.size w w') (b:ShapesVar w) (i:ErrVar w):lR w' (fun k=>k<w.heap.size) X H P :=
 ⟨⟨M,j,fun k hk e=>by have:=l k hk;omega⟩,b.new d,i.new d,fun k hk=>aC hk b.two,fun k hk=>aC hk d.size⟩
theorem jD.below {K:Nat→Prop} {w w':World} {b:Nat} (h:jD K w w') (d:b≤w.heap.size) (hK:∀ k,k<b→K k):Below b w w':=Ext.below h d fun k hk e=>e (hK k hk)
theorem jD.at {K:Nat→Prop} {w w':World} (h:jD K w w') {b:Nat} {o:Obj} (hK:K b) (d:w.heap[b]?=some o):w'.heap[b]?=some o:=Ext.at h (fun e=>e hK) d
variable (K:Nat→Prop) (X:Nat) (H:fP) (P:Option PAg) (p:PAg) (w:World)
theorem D5 (h:lR w K X H P):Calls Tryz.prog 48 #[.pointer (some ⟨X,0,none⟩)] w fun e w'=>e = .returned (.bool P.isSome)∧w'=w:=by
 obtain ⟨⟨M,h1,-⟩,-⟩:=h
 exact Hm M X H P w h1
theorem yL (h:lR w K X H P):Calls Tryz.prog 45 #[.pointer (some ⟨X,0,none⟩)] w fun e w'=>e = .returned (.bool H.dp.dead)∧w'=w:=by
 obtain ⟨⟨M,h1,-⟩,-⟩:=h
 exact EB M X H P w h1
theorem pQ (h:lR w K X H (some p)):Calls Tryz.prog 40 #[.pointer (some ⟨X,0,none⟩)] w fun e w'=>e = .returned (.int .u64 (p.a.V:Nat))∧w'=w:=by
 obtain ⟨⟨M,h1,-⟩,-⟩:=h
 exact zl M X H p w h1
theorem yM (h:lR w K X H (some p)) (b:p.a.Fit):Calls Tryz.prog 38 #[.pointer (some ⟨X,0,none⟩)] w fun e w'=>e = .returned (.tuple #[])∧lR w' K X H (some {p with a:=p.a.tick})∧jD K w w':=by
 obtain ⟨M,h1,h2⟩:=h.host
 refine (ED M X H p w h1 b).mono ?_
 rintro e w' ⟨h3,h4⟩
 exact ⟨h3,h.mT h2 h4⟩
theorem tV (h:lR w K X H (some p)) (b:p.a.Fit):Calls Tryz.prog 80 #[.pointer (some ⟨X,0,none⟩)] w fun e w'=>e = .returned (Bd p.a.next.2)∧lR w' K X H (some {p with a:=p.a.next.1})∧jD K w w':=by
 obtain ⟨M,h1,h2⟩:=h.host
 refine (EC M X H p w h1 b).mono ?_
 rintro e w' ⟨h3,h4⟩
 exact ⟨h3,h.mT h2 h4⟩
theorem nD {n B:Nat} {l:List Int} (frame:List UInt8) (h:lR w K X H (some p)) (b:tW n l B H p) (hl:frame.length≤1000000):Calls Tryz.prog 27 #[.pointer (some ⟨X,0,none⟩),.string ⟨frame.toArray⟩] w fun e w'=>e = .returned (.tuple #[])∧lR w' K X (ij H p frame).1 (some (ij H p frame).2)∧jD K w w':=by
 obtain ⟨M,h1,h2⟩:=h.host
 refine (zj n B X l M H p frame w h1 b hl h.sh h.er (h.two h2)).mono ?_
 rintro e w' ⟨h3,h4⟩
 exact ⟨h3,h.mT h2 h4⟩
theorem xR (h:lR w K X H (some p)) (hd:∀ f,p.a.deg=some f→1≤f.1∧f.1≤14∧p.sec≤100000):Calls Tryz.prog 41 #[.pointer (some ⟨X,0,none⟩)] w fun e w'=>e = .returned (nZ (su p).1 (su p).2.1 (su p).2.2)∧Below w.heap.size w w':=by
 obtain ⟨M,h1,h2⟩:=h.host
 exact xD M X H p w h1 hd h.er
theorem sZ (h:lR w K X H (some p)) (b:p.a.T.length≤1000000000):Calls Tryz.prog 50 #[.pointer (some ⟨X,0,none⟩)] w fun e w'=>∃ v,e = .returned (.tuple #[v,.bool true])∧iJ w' v p.a.T∧(∀ k,v.ownBlock=some k→w.heap.size≤k)∧Below w.heap.size w w':=by
 obtain ⟨M,h1,h2⟩:=h.host
 exact zi M X H p w h1 b
theorem Fy (h:lR w K X H P) (b:H.dp.S.length≤1000000):Calls Tryz.prog 52 #[.pointer (some ⟨X,0,none⟩)] w fun e w'=>∃ v,e = .returned v∧iJ w' v H.dp.S∧Below w.heap.size w w':=by
 obtain ⟨M,h1,h2⟩:=h.host
 exact EA M X H P w h1 b
theorem BL (n:Int) (h:lR w K X H P) (b:n≤9223372036854775807):Calls Tryz.prog 44 #[.pointer (some ⟨X,0,none⟩),.int .i64 n] w fun e w'=>e = .returned (.tuple #[])∧lR w' K X {H with dp := {H.dp with left:=max n (-1)}} P∧jD K w w':=by
 obtain ⟨M,h1,h2⟩:=h.host
 refine (FU M X H P n w h1 b).mono ?_
 rintro e w' ⟨h3,h4,-⟩
 exact ⟨h3,h.mT h2 h4⟩
def Iz (w:World) (K:Nat→Prop) (X:Nat) (R:fP×(PAg⊕(Nat×Nat×Nat))) (e:Ending) (w':World):Prop:=(match R with
 | (H',.inr (k,at',s))=>e = .returned (nZ k at' s)∧lR w' K X H' none
 | (H',.inl p)=>e = .returned (nZ 0 0 0)∧lR w' K X H' (some p))∧jD K w w'
theorem pP {n B:Nat} {l:List Int} (mask cut fail:Int) (h:lR w K X H P) (b:Fine n l B H) (d:B≤800000000) (i:mG n l (H.again mask cut fail).seen) (hm : -9223372036854775808≤mask∧mask≤9223372036854775807) (hc:cut≤9223372036854775807) (j:fail≤9223372036854775807) :
  Calls Tryz.prog 47 #[.pointer (some ⟨X,0,none⟩),.int .i64 mask,.int .i64 cut,.int .i64 fail] w (Iz w K X (ie (H.again mask cut fail))):=by
 obtain ⟨M,h1,h2⟩:=h.host
 refine (zk n B X l M H P mask cut fail w h1 b d i hm hc j h.sh h.er (h.two h2)).mono ?_
 intro e w' h3
 generalize ie (H.again mask cut fail)=R at h3⊢
 obtain ⟨H',r⟩:=R
 cases r with
 | inl q=>exact ⟨⟨h3.1,(h.mT h2 h3.2).1⟩,(h.mT h2 h3.2).2⟩
 | inr y =>
  obtain ⟨k,a,s⟩:=y
  exact ⟨⟨h3.1,(h.mT h2 h3.2).1⟩,(h.mT h2 h3.2).2⟩
end Go.Proofs.YtkkfmkhbdoeglabGreatDoor
