/- A part of what is proved here: lemmas and contracts of single functions. No condition but those that each names. -/
import Derived.Test.YtkkfmkhbdoeglaaGreatDoorG00
import Derived.Test.YtkkfmkhbdoeglaaGreatDoorG27
import Derived.Test.YtkkfmkhbdoeglaaGreatDoorG29
import Derived.Test.YtkkfmkhbdoeglaaGreatDoorG31
import Derived.Test.YtkkfmkhbdoeglaaGreatDoorG34
import Derived.Test.YtkkfmkhbdoeglaaGreatDoorG35
set_option maxHeartbeats 4000000
set_option maxRecDepth 100000
namespace Go.Proofs.YtkkfmkhbdoeglaaGreatDoor
open Go.RowKit Go.Shelf
def pZ (k at' s:Nat):Value := .agg #[.int .i64 (k:Nat),.int .i64 (at':Nat),.int .i64 (s:Nat)]
def oz (w:World) (M:Nat→Prop) (X:Nat) (R:fJ×(PAg⊕(Nat×Nat×Nat))) (e:Ending) (w':World):Prop:=match R with
 | (H',.inr (k,at',s))=>e = .returned (pZ k at' s)∧jx w M X H' none w'
 | (H',.inl p)=>e = .returned (pZ 0 0 0)∧jx w M X H' (some p) w'
theorem za {n:Nat} {l:List Int} {H:fJ} (d:mS n l H.seen) (i:H.dp.room=roomN l):∃ slot next v T,DiskInv decSB decDB foldS [] (H.seen.map parseSec) (placeOf n) slot v T next∧TabOk n (roomN l) v T∧ia H=match readAll H with
 | (H1,some f)=>(H1,.inr (12,0,f))
 | (H1,none)=>(H1.mQ T,.inl ⟨begunA v T,0,⟨gK H.seen,slot,next⟩⟩):=by
 obtain ⟨g,v,T,b,h2,h3⟩:=d
 refine ⟨g.slot,g.next,v,T,h2,h3,?_⟩
 have j:g.stamp=gK H.seen:=by
  have:(Az H.seen).1.stamp=g.stamp:=by rw [b]
  rw [←this]
  rfl
 unfold ia
 generalize readAll H=q
 obtain ⟨H1,r⟩:=q
 cases r with
 | some f=>rfl
 | none =>
  simp only
  rw [b,i]
  simp only
  rw [h3.over,←j]
def wj (w:World) (R:Nat) (x y z:Value):World:=((w.setCell ⟨R,0,none⟩ x).setCell ⟨R,1,none⟩ y).setCell ⟨R,2,none⟩ z
theorem sG {w:World} {R:Nat} {a b c:Value} {T:TypeId} {fz:Nat×Nat} (h:w.heap[R]?=some (.cells #[a,b,c] T fz)) (x y z:Value):(wj w R x y z).heap[R]?=some (.cells #[x,y,z] T fz):=heap_setCell _ _ 2 _ (heap_setCell _ _ 1 _ (heap_setCell _ _ 0 _ h))
theorem qo (w:World) (R:Nat) (x y z:Value):Ext (fun k=>k=R) w (wj w R x y z):=(((Ext.refl (fun k=>k=R) w).setCell ⟨R,0,none⟩ _ (.inl rfl)).setCell ⟨R,1,none⟩ _ (.inl rfl)).setCell ⟨R,2,none⟩ _ (.inl rfl)
theorem xi {H:fJ} {f:Nat} (b:32≤H.seen.length∧H.seen.length≤128) (h:(readAll H).2=some f):f≤100000:=by
 unfold readAll at h
 split at h
 ·cases h;omega
 ·cases h
theorem vG (n B X h:Nat) (l:List Int) (M F:Nat→Prop) (H:fJ) (cu:Value) (w:World) (N:w.heap[X]?=some (.cells #[.pointer (some ⟨h,0,none⟩),cu] 91 (0,0))) (hX:M X) (hh:HostAt w F h H) (hF:∀ k,F k→M k∧k≠X) (q:Fine n l B H) (hB:B≤800000000) (ho:mS n l H.seen) (bn:ShapesVar w) (bo:ErrVar w) (br:∀ k,M k→2≤k) :
  Calls Tryz.prog 53 #[.pointer (some ⟨X,0,none⟩)] w (oz w M X (ia H)):=by
 obtain ⟨slot,next,v,T,bS,O,bs⟩:=za ho q.dp.room
 rw [bs]
 have J:Below w.heap.size w (w.alloc (.cells #[.int .i64 0,.int .i64 0,.int .i64 0] 38)):=(Below.rf w).alloc (ah _) _
 have R0:=fL w (.cells #[.int .i64 0,.int .i64 0,.int .i64 0] 38)
 have ap:=fK J (fI N) N
 have bt:=fI N
 have bv:=hh.below J
 have bM:=bn.new J
 have bN:=bo.new J
 have cr:=hh.lt
 have cs:(w.alloc (.cells #[.int .i64 0,.int .i64 0,.int .i64 0] 38)).heap.size=w.heap.size+1:=ax _ _
 have bw:=ae J
 have r:=ae hF
 have al:=ae hh.lt
 have bx:=ae bN
 have R:=ae br
 clear bs J N hh bn bo br
 generalize bz:w.alloc (.cells #[.int .i64 0,.int .i64 0,.int .i64 0] 38)=u at *
 have c0:=af _ _ 0 _ _ _ ap
 have co:=fI ap
 have bD:=ae ap
 have bH:=ae R0
 cases S:(readAll H).2 with
 | some f =>
  have av:=ae (fun (W:World) (hW:Below u.heap.size u W)=>Ew h F H B W (bv.below hW) q.ok f S)
  have aE:Hid (readAll H=((readAll H).1,some f)):=ae (by rw [←S])
  rw [aE.out]
  have bX:f≤100000:=xi q.ok.n S
  go_enter Tryz.func53,Tryz.ntmps53
  go_upto_region 1 with fail
  clear bz
  go_region_held3 (fun w'=>w'.cell? ⟨X,0,none⟩=some (.pointer (some ⟨h,0,none⟩)))
   (first | exact c0 | exact (m.out.cell (p:=⟨X,0,none⟩) (fun e=>(r.out X e).2 rfl) c0))
   (first | (go_at_call 97;refine (av.out _ (by first | exact (Below.rf u).drew | exact Below.rf u)).mono ?_;rintro e w1 ⟨b,c,rfl,a0,a1,bI,x⟩;have m:Hid (Ext F u w1):=ae (by first | exact (Ext.fM (Below.rf u).drew).trans x | exact x);clear x))
  have i:=m.out.at (fun e=>(r.out X e).2 rfl) bD.out
  have U:=m.out.at (fun e=>absurd (al.out _ e) (dD _)) bH.out
  have x1:=af _ _ 1 _ _ _ i
  have z1:=ao _ _ 1 _ _ i
  have b0:=fI i
  have V:X≠w.heap.size:=fF bt
  have j:Ext (fun k=>k=X) w1 (w1.setCell ⟨X,1,none⟩ (.pointer none)):=(Ext.refl (fun k=>k=X) w1).setCell ⟨X,1,none⟩ _ (.inl rfl)
  have Y:(w1.setCell ⟨X,1,none⟩ (.pointer none)).heap[X]?=some (.cells #[.pointer (some ⟨h,0,none⟩),.pointer none] 91 (0,0)):=heap_setCell _ _ 1 (.pointer none) i
  have Z:=j.at (show ¬w.heap.size=X from fun e=>V e.symm) U
  have a2:=(bx.out.ext m.out fun k hk=>R.out k (r.out k hk).1).ext j fun k e=>e▸R.out X hX
  have C:Ext M w w1:=(Ext.fM bw.out).trans (m.out.mono fun k hk=>(r.out k hk).1)
  have D:Ext M w (w1.setCell ⟨X,1,none⟩ (.pointer none)):=C.setCell ⟨X,1,none⟩ _ (.inl hX)
  have b1:mR (w1.setCell ⟨X,1,none⟩ (.pointer none)) b c 12 0:=j.at (fun e=>iM a0 i (by decide) e) a0
  have b2:=j.at (fun e=>iM a1 i (by decide) e) a1
  have a3:=ae (show HostAt (w1.setCell ⟨X,1,none⟩ (.pointer none)) F h (readAll H).1 from bI.ext j fun k hk e=>(r.out k hk).2 e)
  clear a0 a1 bI
  have aa:=ae Y
  have G:=ae Z
  have b3:=ae j
  have ag:=ae D
  have b4:Hid (w.heap.size≤w1.heap.size):=ae C.size
  clear i U Y Z j C D
  go_wp2_with fail
  generalize w1.setCell ⟨X,1,none⟩ (.pointer none)=w2 at *
  refine (xg b c 12 0 f _ a2 b1 b2 bX (by omega) (by omega)).mono ?_
  rintro e w3 ⟨rfl,o⟩
  have ab:=fK o (fI aa.out) aa.out
  have d:=fK o (fI G.out) G.out
  have a4:=ae ab
  have a5:=ae d
  have ak:=ae (ag.out.trans (Ext.fM o))
  have a6:=ae o
  have b5:=af _ _ 0 _ _ _ d
  have b6:=af _ _ 1 _ _ _ d
  have b7:=af _ _ 2 _ _ _ d
  have b8:=ao _ _ 0 _ _ d
  have ca:=ao _ _ 1 _ _ d
  have cb:=ao _ _ 2 _ _ d
  have ce:=fI d
  clear ab d o
  go_wp2
  have I:=fQ _ (.cells #[.int .i64 12,.int .i64 0,.int .i64 (f:Nat)] 38) (sG a5.out (.int .i64 12) (.int .i64 0) (.int .i64 (f:Nat)))
  have q0:=af _ _ 0 _ _ _ I
  have q1:=af _ _ 1 _ _ _ I
  have q2:=af _ _ 2 _ _ _ I
  have s:Ext (fun k=>k=w.heap.size) w3 ((wj w3 w.heap.size (.int .i64 12) (.int .i64 0) (.int .i64 (f:Nat))).alloc (.cells #[.int .i64 12,.int .i64 0,.int .i64 (f:Nat)] 38)):=(qo w3 w.heap.size _ _ _).alloc _
  unfold wj at q0 q1 q2 s
  refine aK (v:=pZ 12 0 f) (by simp [results,Tryz.results53,go_sem,pZ,q0,q1,q2]) rfl ?_
  refine ⟨rfl,M,⟨h,_,s.at V a4.out,hX,rfl,F,?_,r.out⟩,fun k => .inl,ak.out.trans' s fun k e => .inr (by omega)⟩
  exact ((a3.out.below a6.out).ext s fun k hk e=>by have e':k=w.heap.size:=e;have:=al.out k hk;omega)
 | none =>
  have hk:∀ y:E,EntGood y→y.1.2.length≤gx∧y.2.length≤gx:=fun y hy=>by have:=hy.small;unfold gx;omega
  have av:=ae (fun (W:World) (hW:Below u.heap.size u W)=>CU h F H B W (bv.below hW) q.ok (bM.new hW) (fun k hk=>R.out k (r.out k hk).1) slot v next T (by rw [q.len];exact bS) S (by have:=O.v64;omega) (by have:=O.len;omega) (by have:=q.dp.there.len;omega) (by have:=q.dp.log;omega) (fun y hy=>(hk y (q.dp.there.mem y hy)).1) (fun y hy=>hk y (O.good y hy)) (by rw [q.dp.room];exact O.over))
  have aE:Hid (readAll H=((readAll H).1,none)):=ae (by rw [←S])
  rw [aE.out]
  go_enter Tryz.func53,Tryz.ntmps53
  go_upto_region 1 with fail
  clear bz
  go_region_held3 (fun w'=>w'.cell? ⟨X,0,none⟩=some (.pointer (some ⟨h,0,none⟩)))
   (first | exact c0 | exact (m.out.cell (p:=⟨X,0,none⟩) (fun e=>(r.out X e).2 rfl) c0))
   (first | (go_at_call 97;refine (av.out _ (by first | exact (Below.rf u).drew | exact Below.rf u)).mono ?_;rintro e w1 ⟨a,rfl,-,M1,bc,bL,x⟩;have bi:Hid (∀ k,M1 k→F k∨u.heap.size≤k):=ae bL;clear bL;have m:Hid (Ext F u w1):=ae (by first | exact (Ext.fM (Below.rf u).drew).trans x | exact x);clear x))
  have i:=m.out.at (fun e=>(r.out X e).2 rfl) bD.out
  have U:=m.out.at (fun e=>absurd (al.out _ e) (dD _)) bH.out
  have x1:=af _ _ 1 _ _ _ i
  have z1:=ao _ _ 1 _ _ i
  have b0:=fI i
  have V:X≠w.heap.size:=fF bt
  have j:Ext (fun k=>k=X) w1 (w1.setCell ⟨X,1,none⟩ (.pointer (some ⟨a,0,none⟩))):=(Ext.refl (fun k=>k=X) w1).setCell ⟨X,1,none⟩ _ (.inl rfl)
  have Y:(w1.setCell ⟨X,1,none⟩ (.pointer (some ⟨a,0,none⟩))).heap[X]?=some (.cells #[.pointer (some ⟨h,0,none⟩),.pointer (some ⟨a,0,none⟩)] 91 (0,0)):=heap_setCell _ _ 1 (.pointer (some ⟨a,0,none⟩)) i
  have Z:=j.at (show ¬w.heap.size=X from fun e=>V e.symm) U
  have a2:=(bx.out.ext m.out fun k hk=>R.out k (r.out k hk).1).ext j fun k e=>e▸R.out X hX
  have C:Ext M w w1:=(Ext.fM bw.out).trans (m.out.mono fun k hk=>(r.out k hk).1)
  have D:Ext M w (w1.setCell ⟨X,1,none⟩ (.pointer (some ⟨a,0,none⟩))):=C.setCell ⟨X,1,none⟩ _ (.inl hX)
  have a3:=ae (show Dt (w1.setCell ⟨X,1,none⟩ (.pointer (some ⟨a,0,none⟩))) M1 a h _ _ from bc.frame j fun k hk e=>by
   have e':k=X:=e
   rcases bi.out k hk with Q | Q
   ·exact (r.out k Q).2 e'
   ·omega)
  clear bc
  have aa:=ae Y
  have G:=ae Z
  have b3:=ae j
  have ag:=ae D
  have b4:Hid (w.heap.size≤w1.heap.size):=ae C.size
  clear i U Y Z j C D
  go_wp2_with fail
  generalize w1.setCell ⟨X,1,none⟩ (.pointer (some ⟨a,0,none⟩))=w2 at *
  refine (oH _).mono ?_
  rintro e w3 ⟨rfl,o⟩
  have ab:=fK o (fI aa.out) aa.out
  have d:=fK o (fI G.out) G.out
  have a4:=ae ab
  have a5:=ae d
  have ak:=ae (ag.out.trans (Ext.fM o))
  have a6:=ae o
  have b5:=af _ _ 0 _ _ _ d
  have b6:=af _ _ 1 _ _ _ d
  have b7:=af _ _ 2 _ _ _ d
  have b8:=ao _ _ 0 _ _ d
  have ca:=ao _ _ 1 _ _ d
  have cb:=ao _ _ 2 _ _ d
  have ce:=fI d
  clear ab d o
  go_wp2
  have I:=fQ _ (.cells #[.int .i64 0,.int .i64 0,.int .i64 0] 38) (sG a5.out (.int .i64 0) (.int .i64 0) (.int .i64 0))
  have q0:=af _ _ 0 _ _ _ I
  have q1:=af _ _ 1 _ _ _ I
  have q2:=af _ _ 2 _ _ _ I
  have s:Ext (fun k=>k=w.heap.size) w3 ((wj w3 w.heap.size (.int .i64 0) (.int .i64 0) (.int .i64 0)).alloc (.cells #[.int .i64 0,.int .i64 0,.int .i64 0] 38)):=(qo w3 w.heap.size _ _ _).alloc _
  unfold wj at q0 q1 q2 s
  refine aK (v:=pZ 0 0 0) (by simp [results,Tryz.results53,go_sem,pZ,q0,q1,q2]) rfl ?_
  refine ⟨rfl,fun k=>M k∨w.heap.size≤k,⟨h,_,s.at V a4.out,.inl hX,a,M1,rfl,?_,fun k hk => ?_⟩,fun k hk=>hk,ak.out.trans' s fun k e => .inr (by omega)⟩
  ·refine (a3.out.below a6.out).frame s fun k hk e => ?_
   have e':k=w.heap.size:=e
   rcases bi.out k hk with Q | Q
   ·have:=al.out k Q;omega
   ·omega
  ·rcases bi.out k hk with Q | Q
   ·exact ⟨.inl (r.out k Q).1,(r.out k Q).2⟩
   ·exact ⟨.inr (by omega),by omega⟩
end Go.Proofs.YtkkfmkhbdoeglaaGreatDoor
namespace Go.Proofs.YtkkfmkhbdoeglaaGreatDoor
open Go.RowKit Go.Shelf
theorem Ff (d:Int) (l:List Int) (rv:Value) (w:World) (hr:fR w rv 1 l.length (l.map fun i => .int .i64 i)) (n:Nat) (hn:(n:Int)=min (max d 32) 128) (q:ShapesVar w) (D:ErrVar w) (H':fJ) (p:PAg) (E:ia (nb n (roomN l))=(H',.inl p)) :
  Calls Tryz.prog 40 #[.int .i64 d,rv] w fun e w'=>∃ X M,e = .returned (.tuple #[.pointer (some ⟨X,0,none⟩),pZ 0 0 0])∧HostX w' M X H' (some p)∧(∀ k,M k→w.heap.size≤k)∧Below w.heap.size w w':=by
 have j:Below w.heap.size w (w.alloc (.cells #[.int .i64 0,.int .i64 0,.int .i64 0] 38)):=(Below.rf w).alloc (ah _) _
 have R0:=fL w (.cells #[.int .i64 0,.int .i64 0,.int .i64 0] 38)
 have F:(w.alloc (.cells #[.int .i64 0,.int .i64 0,.int .i64 0] 38)).heap.size=w.heap.size+1:=ax _ _
 have r:=q.new j
 have s:=D.new j
 have G:=ae (Av d l rv _ (hr.below j) n hn)
 have I:32≤n∧n≤128:=by omega
 have am:=ae E
 have h2:=q.two
 have ap:=ae j
 have J:=ae R0
 have av:=ae F
 have aE:=ae r
 have a0:=ae s
 clear hr hn q D E j R0 F r s
 go_enter Tryz.func40,Tryz.ntmps40
 go_wp2_with fail
 refine G.out.mono ?_
 rintro e w1 ⟨h,rfl,N,m⟩
 generalize w.alloc (.cells #[.int .i64 0,.int .i64 0,.int .i64 0] 38)=u at *
 have o:Below w1.heap.size w1 (w1.alloc (.cells #[.pointer (some ⟨h,0,none⟩),.pointer none] 91)):=(Below.rf w1).alloc (ah _) _
 have X2:=fL w1 (.cells #[.pointer (some ⟨h,0,none⟩),.pointer none] 91)
 have O:(w1.alloc (.cells #[.pointer (some ⟨h,0,none⟩),.pointer none] 91)).heap.size=w1.heap.size+1:=ax _ _
 have Q:=m.size
 have bb:=av.out
 have a2:=ae (vG n 0 w1.heap.size h l (fun k=>u.heap.size≤k∧k<w1.heap.size+1) (fun k=>u.heap.size≤k∧k<w1.heap.size) (nb n (roomN l)) (.pointer none) _ X2 ⟨Q,by omega⟩ (N.below o) (fun k hk=>⟨⟨hk.1,by omega⟩,by omega⟩) (Fine.new n l I) (by omega) (xR n l I) ((aE.out.new m).new o) ((a0.out.new m).new o) (fun k hk=>by omega))
 have R:=ae m
 have x:=ae o
 clear N m o X2 G O
 go_wp2_with fail
 refine a2.out.mono ?_
 rintro e w3 S
 rw [am.out] at S
 obtain ⟨rfl,M',U,V,W⟩:=S
 have a3:Ext (fun _=>False) u w1:=Ext.fM R.out
 have y:Below u.heap.size u w3:=(R.out.trans (x.out.mono Q)).trans (W.below (by have:=x.out.size;omega) fun k hk e=>by omega)
 have b:=fK y (fI J.out) J.out
 have a4:=ae b
 have a5:=ae U
 have Y:=ae V
 have Z:=ae y
 have a6:=ae (x.out.size)
 have bk:=af _ _ 0 _ _ _ b
 have bl:=af _ _ 1 _ _ _ b
 have bn:=af _ _ 2 _ _ _ b
 have bo:=ao _ _ 0 _ _ b
 have br:=ao _ _ 1 _ _ b
 have bs:=ao _ _ 2 _ _ b
 have bt:=fI b
 clear U V W y b a3
 unfold pZ
 go_wp2
 have B:=sG a4.out (.int .i64 0) (.int .i64 0) (.int .i64 0)
 have q0:=af _ _ 0 _ _ _ B
 have q1:=af _ _ 1 _ _ _ B
 have q2:=af _ _ 2 _ _ _ B
 have C:Ext (fun k=>k=w.heap.size) w3 (wj w3 w.heap.size (.int .i64 0) (.int .i64 0) (.int .i64 0)):=qo w3 w.heap.size _ _ _
 unfold wj at q0 q1 q2 C
 refine aK (v := .tuple #[.pointer (some ⟨w1.heap.size,0,none⟩),.agg #[.int .i64 0,.int .i64 0,.int .i64 0]]) (by simp [results,Tryz.results40,go_sem,q0,q1,q2]) rfl ?_
 have O:=a6.out
 refine ⟨w1.heap.size,M',rfl,a5.out.frame C fun k hk e => ?_,fun k hk => ?_,?_⟩
 ·have e':k=w.heap.size:=e
  rcases Y.out k hk with h' | h'
  ·omega
  ·omega
 ·rcases Y.out k hk with h' | h'
  ·omega
  ·omega
 ·exact (ap.out.trans (Z.out.mono (by omega))).trans (C.below (by have:=Z.out.size;omega) fun k hk e=>by have e':k=w.heap.size:=e;omega)
theorem yI (n B X:Nat) (l:List Int) (M:Nat→Prop) (H:fJ) (p:PAg) (frame:List UInt8) (w:World) (hh:HostX w M X H (some p)) (hr:uT n l B H p) (hl:frame.length≤1000000) (U:ShapesVar w) (V:ErrVar w) (W:∀ k,M k→2≤k) :
  Calls Tryz.prog 12 #[.pointer (some ⟨X,0,none⟩),.string ⟨frame.toArray⟩] w fun e w'=>e = .returned (.tuple #[])∧jx w M X (iy H p frame).1 (some (iy H p frame).2) w':=by
 obtain ⟨h,a,M',m,hX,⟨F,G,O,x,hm,Y⟩,Z⟩:=hh.Hm
 have bD:(1000000:Nat)≤gx:=by decide
 have a3:=fI m
 have S:=ae hm
 have HR:=ae hr
 have a4:=ae m
 have o:=ae Y
 have q:=ae Z
 have a5:=ae U
 have a6:=ae V
 have a7:=ae W
 obtain ⟨R,hR⟩:∃ R,R=iy H p frame:=⟨_,rfl⟩
 have a9:=ae hR
 rw [←hR]
 clear hh hm hr m Y Z U V W hR
 go_enter Tryz.func12,Tryz.ntmps12
 go_wp2_with (first | (refine lr rfl (.tmp 6) rfl frame rfl (by omega) ?_;intro cap w1 r D bH;have r1:=fK D a3 a4.out;have c1:=af _ _ 1 _ _ _ r1;have ba:=fI r1;have bb:=ae r1;have aa:=ae r;have s:=ae D;clear r1 r D) | fail)
 have bc:Hid (∀ k,F k∨G k∨O k→k<w.heap.size):=ae fun k hk=>hk.elim (S.out.host.lt k) fun hk=>hk.elim (S.out.ag.glt k) (S.out.ag.olt k)
 have b:=HR.out
 refine (yo n B a h l F G O (fun k=>F k∨G k∨O k) H p x (.slice (some ⟨w.heap.size,0,none⟩) frame.length cap) frame w1 (S.out.below s.out) (fun k hk=>hk) b.up b.fit (by have:=b.fine.ok.n;rw [b.fine.len] at this;exact this) b.fine.ok b.low b.stamp (by have:=b.fine.dp.log;have:=b.low;omega) aa.out.bytes (by omega) (a5.out.new s.out) (a6.out.new s.out) (fun k hk=>a7.out k (q.out k (o.out k hk)).1)).mono ?_
 rintro e w2 ⟨rfl,E⟩
 rw [←a9.out] at E
 have bi:=kh.IK (M:=fun k=>(F k∨G k∨O k)∨k=X) bb.out (.inr rfl) (fun k hk=>⟨.inl hk,(q.out k (o.out k hk)).2⟩) E
 obtain ⟨M3,ab,I,j⟩:=bi
 have ak:¬((F w.heap.size∨G w.heap.size∨O w.heap.size)∨w.heap.size=X):=fun e=>e.elim (fun e=>dD _ (bc.out _ e)) fun e=>by omega
 have al:=aa.out.frame j.size fun k e hk=>j.block k hk (by cases e;exact ak)
 have J:∀ k,M3 k→k≠w.heap.size:=fun k hk e=>by
  rcases I k hk with d | d
  ·exact ak (e▸d)
  ·omega
 have N:∀ k,M3 k→M k∨w.heap.size≤k:=fun k hk=>by
  rcases I k hk with d | d
  ·exact .inl (d.elim (fun d=>(q.out k (o.out k d)).1) fun e=>e▸hX)
  ·exact .inr (by omega)
 have bk:=ae (show Ext M w w2 from (Ext.fM s.out).trans (j.mono fun k d=>d.elim (fun d=>(q.out k (o.out k d)).1) fun e=>e▸hX))
 have bl:=ae ab
 have bn:=ae N
 have aE:=ae J
 have u:∀ i,i<frame.length→(w2.cell? ⟨w.heap.size,i,none⟩).isSome=true∧w2.frozen? ⟨w.heap.size,i,none⟩=false:=by
  obtain ⟨-,Q | ⟨g,off,bv,he,_,_,hn,_,_,hf⟩⟩:=al
  ·cases Q.1
  ·cases he
   intro i hi
   have:=hf i (by omega)
   rw [bF] at this
   exact this
 have bx:=j.size
 have h0:ox w2 w.heap.size frame.length (.int .i64 0) w2:=⟨0,aL _,rfl,u,by omega,Ext.refl _ _⟩
 clear u E ab I j al J N c1 ba
 go_wp2
 go_loopw [16] (fun i wr=>ox w2 w.heap.size frame.length i wr) (fun i _=>frame.length-(intOf i).toNat)
 case atStart=>exact h0
 case round =>
  clear h0
  obtain ⟨k,hk,rfl,y,br,Q⟩:=hrel
  by_cases am:k<frame.length
  ·have bz:(k:Int)<frame.length:=by omega
   obtain ⟨C,hz⟩:=y k am
   obtain ⟨ov,bI⟩:=cE.1 C
   have bs:=ae y
   clear y C
   go_wp2
   exact ⟨ox.step am bs.out br Q,by simp [intOf];omega⟩
  ·obtain rfl:k=frame.length:=by omega
   have bL:¬(frame.length:Int)<frame.length:=by omega
   clear y
   go_wp2
   go_end0
   exact ⟨rfl,M3,bl.out.frame Q aE.out,bn.out,bk.out.trans' Q fun k e => .inr (by have e':k=w.heap.size:=e;omega)⟩
def uU (w1:World) (g off n:Nat) (i:Value) (wr:World):Prop :=
 ∃ k:Nat,k≤n∧i = .int .i64 k∧(∀ i,i<n→(wr.cell? ⟨g,off+i,none⟩).isSome=true∧wr.frozen? ⟨g,off+i,none⟩=false)∧g<wr.heap.size∧Ext (fun b=>b=g) w1 wr
theorem uU.step {w1 wr:World} {g off n k:Nat} {v:Value} (hk:k<n) (h1:∀ i,i<n→(wr.cell? ⟨g,off+i,none⟩).isSome=true∧wr.frozen? ⟨g,off+i,none⟩=false) (h3:g<wr.heap.size) (h4:Ext (fun b=>b=g) w1 wr) :
  uU w1 g off n (.int .i64 ((k+1:Nat):Int)) (wr.setCell ⟨g,off+k,none⟩ v):=by
 refine ⟨k+1,hk,rfl,fun i j => ?_,by rw [size_setCell];exact h3,h4.setCell _ _ (.inl rfl)⟩
 obtain ⟨hs,l⟩:=h1 i j
 refine ⟨?_,by rw [eK];exact l⟩
 by_cases d:i=k
 ·subst d
  obtain ⟨x,m⟩:=cE.1 hs
  rw [World.cell?_setCell_same (h:=m)]
  rfl
 ·rw [cJ (h:=by simp <;> omega)]
  exact hs
def Ax (r:Option (List UInt8)):Value := .tuple #[.string ⟨(r.getD []).toArray⟩,.bool r.isSome]
theorem DS (M:Nat→Prop) (X:Nat) (H:fJ) (p:PAg) (w:World) (S:HostX w M X H (some p)) (hf:p.a.Fit) :
  Calls Tryz.prog 18 #[.pointer (some ⟨X,0,none⟩)] w fun e w'=>e = .returned (Ax p.a.next.2)∧jx w M X H (some {p with a:=p.a.next.1}) w':=by
 obtain ⟨h,a,M',o,hX,⟨F,G,O,x,hm,W⟩,Y⟩:=S.Hm
 have l:=hm.ag.row
 unfold AV.cells at l
 have c4:=af _ _ 4 _ _ _ l
 have c1:=af _ _ 1 _ _ _ o
 have bk:=fI o
 have bl:=fI l
 have d:=hm.ag.out
 cases C:p.a.out with
 | nil =>
  rw [C] at d
  have J:=ae (uY a x.c O [] w c4 d)
  have HN:Hid (p.a.next=(p.a,none)):=ae (by unfold AgA.next;rw [C])
  have HH:=ae S
  clear S hm o l d C c4
  go_enter Tryz.func18,Tryz.ntmps18
  go_wp2_with fail
  refine J.out.mono ?_
  rintro e w1 ⟨rfl,rfl⟩
  go_wp2_with (refine gF rfl (.tmp 16) rfl [] (by exact BytesAt.nil _ _ _) ?_)
  refine wp_loop_rounds 1 ?_
  rw [rounds_succ]
  go_wp2
  go_ret2
  rw [HN.out]
  exact ⟨rfl,HH.out.go⟩
 | cons b out =>
  rw [C] at d
  have J:=ae (uY a x.c O (b::out) w c4 d)
  have HN:Hid (p.a.next=({p.a with out:=out},some b)):=ae (by unfold AgA.next;rw [C])
  have bn:b.length≤13:=hf.olen b (by rw [C];simp)
  have s:=ae hm
  have ap:=ae o
  have y:=ae W
  have B:=ae Y
  clear S hm o l d C c4 W Y
  go_enter Tryz.func18,Tryz.ntmps18
  go_wp2_with fail
  refine J.out.mono ?_
  rintro e w1 ⟨u,rfl,q,d,r⟩
  obtain ⟨N,bb,Z⟩:=q
  have aa:=N.bytes
  obtain ⟨-,bo | ⟨g,off,cap,rfl,-,Q,br,-,U,D⟩⟩:=N
  ·omega
  have E:=Z g rfl
  have ab:=s.out.ag.outs (O':=fun j=>O j∧(Value.slice (some ⟨g,off,none⟩) b.length cap).ownBlock≠some j) d r (fun k hk=>aC (s.out.ag.olt k hk.1) r.size) (fun k hk => .inl hk.1)
  have R:=s.out.ag.gin.2.2.2
  have ak:gU w1 F G (fun j=>O j∧(Value.slice (some ⟨g,off,none⟩) b.length cap).ownBlock≠some j) a h H {p with a := {p.a with out:=out}} x:=⟨s.out.host.ext r fun k hk e=>s.out.fg k hk (e▸R),ab,s.out.fg,fun k hk e=>s.out.fo k hk e.1⟩
  have av:=ae ak
  have aE:=ae r
  have a0:=ae aa
  have a1:X≠x.c:=fun e=>(B.out x.c (y.out _ (.inr (.inl R)))).2 e.symm
  have a2:X≠g:=fun e=>(B.out g (y.out _ (.inr (.inr E)))).2 e.symm
  have a3:=ae (r.at a1 ap.out)
  have h0:uU w1 g off b.length (.int .i64 0) w1:=⟨0,aL _,rfl,fun i hi=>D i (by omega),Q,Ext.refl _ _⟩
  clear d r ak ab aa Z c1 U D
  go_wp2_with (refine gF rfl (.tmp 16) rfl b (by exact a0.out) ?_)
  go_loopw [20] (fun i wr=>uU w1 g off b.length i wr) (fun i _=>b.length-(intOf i).toNat)
  case atStart=>exact h0
  case round =>
   clear h0
   obtain ⟨k,hk,rfl,q,Q,V⟩:=hrel
   by_cases al:k<b.length
   ·have bc:(k:Int)<b.length:=by omega
    obtain ⟨I,hz⟩:=q k al
    obtain ⟨ov,bs⟩:=cE.1 I
    have a5:=ae q
    clear q I
    go_wp2
    exact ⟨uU.step al a5.out Q V,by simp [intOf];omega⟩
   ·obtain rfl:k=b.length:=by omega
    have bt:¬(b.length:Int)<b.length:=by omega
    clear q
    go_wp2
    go_ret2
    rw [HN.out]
    refine ⟨rfl,M,⟨h,_,V.at a2 a3.out,hX,a,M',rfl,⟨F,G,_,x,av.out.frame V fun j m e => ?_,fun j m=>y.out j (m.imp id fun m=>m.imp id fun m=>m.1)⟩,B.out⟩,fun j => .inl,?_⟩
    ·have e':j=g:=e
     subst e'
     rcases m with m | m | m
     ·exact s.out.fo j m E
     ·exact s.out.ag.sep j m E
     ·exact m.2 rfl
    ·exact (aE.out.mono fun j e=>(B.out j (y.out j (.inr (.inl (e▸R))))).1).trans (V.mono fun j e=>(B.out j (y.out j (.inr (.inr (e▸E))))).1)
end Go.Proofs.YtkkfmkhbdoeglaaGreatDoor
namespace Go.Proofs.YtkkfmkhbdoeglaaGreatDoor
open Go.RowKit Go.Shelf
theorem E4 (X h:Nat) (j:Value) (F:Nat→Prop) (x:HV) (H:fJ) (n:Int) (w:World) (h1:w.heap[X]?=some (.cells #[.pointer (some ⟨h,0,none⟩),j] 91 (0,0))) (h2:gO w F h x H) (q:n≤9223372036854775807) :
  Calls Tryz.prog 26 #[.pointer (some ⟨X,0,none⟩),.int .i64 n] w fun e w'=>e = .returned (.tuple #[])∧gO w' F h {x with left:=max n (-1)} {H with dp := {H.dp with left:=max n (-1)}}∧Ext (fun k=>k=h) w w'∧w'.heap.size=w.heap.size:=by
 have b:w.heap[h]?=_:=h2.dp.row
 have l:=ae b
 unfold HV.cells at b
 have c0:=af _ _ 0 _ _ _ h1
 have d3:=af _ _ 3 _ _ _ b
 have z3:=ao _ _ 3 _ _ b
 have m:=fI h1
 have o:=fI b
 have d:=ae h2
 clear h1 h2 b
 go_enter Tryz.func26,Tryz.ntmps26
 go_wp2
 go_end0
 have i:Ext (fun k=>k=h) w (w.setCell ⟨h,3,none⟩ (.int .i64 (max n (-1)))):=(Ext.refl _ w).setCell ⟨h,3,none⟩ _ (.inl rfl)
 refine ⟨rfl,d.out.row (heap_setCell _ _ 3 _ l.out) (size_setCell _ _ _) i ⟨rfl,rfl,rfl,rfl,rfl,rfl⟩ ⟨rfl,rfl,rfl,rfl,rfl,rfl⟩ ⟨rfl,d.out.dp.dead,d.out.fail,d.out.writes⟩ ?_,i,size_setCell _ _ _⟩
 show -1≤max n (-1)∧max n (-1)≤_
 omega
theorem DM (X h:Nat) (j:Value) (F:Nat→Prop) (x:HV) (H:fJ) (n:Int) (w:World) (h1:w.heap[X]?=some (.cells #[.pointer (some ⟨h,0,none⟩),j] 91 (0,0))) (h2:gO w F h x H) :
  Calls Tryz.prog 8 #[.pointer (some ⟨X,0,none⟩),.int .i64 n] w fun e w'=>e = .returned (.tuple #[])∧gO w' F h {x with fail:=max n (-1)} {H with fail:=max n (-1)}∧Ext (fun k=>k=h) w w'∧w'.heap.size=w.heap.size:=by
 have b:w.heap[h]?=_:=h2.dp.row
 have l:=ae b
 unfold HV.cells at b
 have c0:=af _ _ 0 _ _ _ h1
 have d3:=af _ _ 4 _ _ _ b
 have z3:=ao _ _ 4 _ _ b
 have m:=fI h1
 have o:=fI b
 have d:=ae h2
 clear h1 h2 b
 go_enter Tryz.func8,Tryz.ntmps8
 go_wp2
 go_end0
 have i:Ext (fun k=>k=h) w (w.setCell ⟨h,4,none⟩ (.int .i64 (max n (-1)))):=(Ext.refl _ w).setCell ⟨h,4,none⟩ _ (.inl rfl)
 exact ⟨rfl,d.out.row (heap_setCell _ _ 4 _ l.out) (size_setCell _ _ _) i ⟨rfl,rfl,rfl,rfl,rfl,rfl⟩ ⟨rfl,rfl,rfl,rfl,rfl,rfl⟩ ⟨d.out.dp.left,d.out.dp.dead,rfl,d.out.writes⟩ d.out.dp.lb,i,size_setCell _ _ _⟩
theorem Gv (a:Int):bits BinOp.and IntKind.i64 a 1=a%2:=by
 show IntKind.i64.wrap (((BitVec.ofInt 64 a &&& BitVec.ofInt 64 1).toNat:Nat):Int)=a%2
 rw [BitVec.toNat_and,show (BitVec.ofInt 64 1).toNat=1 from rfl,Nat.and_one_is_mod,BitVec.toNat_ofInt]
 have h:(((a%((2^64:Nat):Int)).toNat%2:Nat):Int)=a%2:=by omega
 rw [h]
 have h2:a%2=((a%2).toNat:Int):=by omega
 rw [h2]
 exact IntWalk.i64_in _ (by omega)
theorem G8 (mask:Int) (k:Nat):(bits BinOp.and IntKind.i64 (mask / 2^(k%60)) 1==1)=pj mask k:=by
 rw [Gv]
 unfold pj
 rfl
theorem oz.op {w w':World} {M:Nat→Prop} {X:Nat} {R:fJ×(PAg⊕(Nat×Nat×Nat))} {e:Ending} (h:oz w M X R e w'):∃ k a s P',e = .returned (pZ k a s)∧jx w M X R.1 P' w'∧∀ b d w2,jx b d X R.1 P' w2→oz b d X R (.returned (pZ k a s)) w2:=by
 obtain ⟨H',r⟩:=R
 cases r with
 | inl p =>
  obtain ⟨h1,h2⟩:=h
  exact ⟨0,0,0,some p,h1,h2,fun _ _ _ h=>⟨rfl,h⟩⟩
 | inr y =>
  obtain ⟨k,a,s⟩:=y
  obtain ⟨h1,h2⟩:=h
  exact ⟨k,a,s,none,h1,h2,fun _ _ _ h=>⟨rfl,h⟩⟩
theorem take_set {α:Type} {A D:List α} {k:Nat} {b : α} (hk:A[k]?=some b) (hl:D.length=A.length):(A.take k++D.drop k).set k b=A.take (k+1)++D.drop (k+1):=by
 obtain ⟨d,rfl⟩:=aG.1 hk
 have h1:(A.take k).length=k:=by rw [aA];omega
 rw [List.set_append_right _ _ (by omega),h1,ef,cd (by omega),aj,aO d,bg]
 rfl
def EU (b:World) (F:Nat→Prop) (h:Nat) (x:HV) (H:fJ) (A:List (List UInt8)) (k:Nat) (wr:World):Prop :=
 ∃ F',gO wr F' h {x with late := .slice none 0 0} {H with held:=A,late:=[],seen:=A.take k++H.seen.drop k}∧(∀ j,F' j→F j∨b.heap.size≤j)∧Ext F b wr
def IE (b:World) (F:Nat→Prop) (h:Nat) (x:HV) (H:fJ) (mask:Int) (k:Nat) (wr:World):Prop :=
 gO wr F h x {H with held:=applySel (pj mask) 0 (H.late.take k) H.held}∧Ext F b wr
theorem yJ (n B X:Nat) (l:List Int) (M:Nat→Prop) (H:fJ) (P:Option PAg) (mask cut fail:Int) (w:World) (hh:HostX w M X H P) (aa:Fine n l B H) (hW:B≤800000000) (ho:mS n l (H.again mask cut fail).seen) (_hm : -9223372036854775808≤mask∧mask≤9223372036854775807) (hc:cut≤9223372036854775807) (hf:fail≤9223372036854775807) (bD:ShapesVar w) (cB:ErrVar w) (c3:∀ k,M k→2≤k) :
  Calls Tryz.prog 21 #[.pointer (some ⟨X,0,none⟩),.int .i64 mask,.int .i64 cut,.int .i64 fail] w (oz w M X (ia (H.again mask cut fail))):=by
 obtain ⟨h,hY,F,d,hX,⟨x,aE⟩,hF,-,ap,fp⟩:=hh.host
 subst fp
 have Q:Below w.heap.size w (w.alloc (.cells #[.int .i64 0,.int .i64 0,.int .i64 0] 38)):=(Below.rf w).alloc (ah _) _
 have R0:=fL w (.cells #[.int .i64 0,.int .i64 0,.int .i64 0] 38)
 have c4:=fK Q (fI d) d
 have ag:=aE.frame Q.size fun k hk=>Q.block k (aE.lt k hk)
 have c5:=ae aE.lt
 have fB:Hid (X<w.heap.size):=ae (fI d)
 have f0:Hid (2≤w.heap.size):=ae bD.two
 have bl:Hid (F h):=ae aE.foot.1
 have f1:=ae Q
 have f3:=ae R0
 have a0:=ae c4
 have HF:=ae hF
 have bo:=ae aa
 have HO:=ae ho
 have f4:=ae (bD.new Q)
 have f5:=ae (cB.new Q)
 have br:=ae c3
 have hs:(w.alloc (.cells #[.int .i64 0,.int .i64 0,.int .i64 0] 38)).heap.size=w.heap.size+1:=ax _ _
 have ht:H.late.length≤1000000000:=aI aa.ok.ll (by omega)
 have hu:H.held.length≤1000:=by rw [aa.ok.hl];have:=aa.ok.n;omega
 have f6:=ae (fun y (hU:y∈H.late)=>(aa.ok.late y hU).2)
 clear hh d aE Q R0 c4 hF aa ho bD cB c3
 obtain ⟨R,hR⟩:∃ R,R=ia (H.again mask cut fail):=⟨_,rfl⟩
 have c6:=ae hR
 rw [←hR]
 clear hR
 go_enter Tryz.func21,Tryz.ntmps21
 go_upto_region 1 with fail
 generalize w.alloc (.cells #[.int .i64 0,.int .i64 0,.int .i64 0] 38)=Z at *
 have c0:=af _ _ 0 _ _ _ a0.out
 have f7:=fI a0.out
 have f8:=ae ag
 have G:=ag.dp.row
 unfold HostIs HV.cells at G
 obtain ⟨la,e1,bH,hv,-⟩:=ag.late.get
 have c7:=ae bH
 rw [bH] at G
 have d2:=af _ _ 2 _ _ _ G
 have f9:=fI G
 clear ag G bH
 go_upto_region 3 with fail
 clear c0 d2 f7 f9
 go_loopw [22] (fun i wr=>∃ k:Nat,k≤H.late.length∧i = .int .i64 (k:Int)∧IE Z F h x H mask k wr) (fun i _=>H.late.length-(intOf i).toNat)
 case atStart=>exact ⟨0,aL _,rfl,f8.out,Ext.refl _ _⟩
 case round =>
  obtain ⟨k,hk,rfl,hrel⟩:=hrel
  obtain ⟨J,c8⟩:=hrel
  have o:=ae J
  have bI:=ae c8
  have d:=J.dp.row
  unfold HostIs HV.cells at d
  have c9:=fI d
  by_cases bs:k<H.late.length
  ·obtain ⟨b,hb⟩:∃ b,b=H.late[k]:=⟨_,rfl⟩
   have bL:H.late[k]?=some b:=by rw [hb];exact ay bs
   have bM:b.2<H.held.length:=f6.out b (by rw [hb];exact cF bs)
   obtain ⟨hw,ct,bN,-,S⟩:=J.late.get
   obtain ⟨g0,off,u,rfl,d0,d1,r⟩:=S k b bL
   have hS:Value.slice la H.late.length e1 = .slice (some ⟨g0,off,none⟩) H.late.length ct:=c7.out.symm.trans bN
   obtain ⟨rfl,-,rfl⟩:=Value.slice.inj hS
   have hlen:(applySel (pj mask) 0 (H.late.take k) H.held).length=H.held.length:=mW _ _ _ _
   obtain ⟨gs,os,cap,u0,U,s0,sf,⟨Cg,ga,bS⟩,gb⟩:=J.held.store (n:=b.2) (by show _<(applySel (pj mask) 0 (H.late.take k) H.held).length;rw [hlen];exact bM)
   have bX:x.held = .slice (some ⟨gs,os,none⟩) H.held.length cap:=by rw [←hlen];exact U
   obtain ⟨V,W,a6,-,-⟩:=r.1.opened
   subst a6
   rw [bX] at d
   have c0:wr.cell? ⟨h,0,none⟩=some (.slice (some ⟨gs,os,none⟩) H.held.length cap):=af _ _ 0 _ _ _ d
   have da:=fP d0
   have al:gs<wr.heap.size:=fP s0
   obtain ⟨O,bn⟩:=b
   simp only at bM d0 d1 s0 sf r
   have g1:(k:Int)<H.late.length:=by omega
   have g2:(bn:Int)<H.held.length:=by omega
   have a7:=ae r
   have bt:=ae U
   have b0:=ae bL
   have e2:=ae hlen
   have gc:=ae bM
   clear J c8 d hb bL S bN hS hlen U bX r bS
   have N:Hid (Below wr.heap.size wr (wr.alloc (.cells #[.int .i64 (bn:Int),.slice V O.length W] 125))):=ae ((Below.refl _ wr).alloc (ah _) _)
   have ab:applySel (pj mask) 0 (H.late.take (k+1)) H.held=if pj mask k then (applySel (pj mask) 0 (H.late.take k) H.held).set bn O else applySel (pj mask) 0 (H.late.take k) H.held:=by
    rw [mj _ _ b0.out,oh,aA,Nat.min_eq_left (by omega),bF]
   have hq:=G8 mask k
   cases am:pj mask k with
   | false =>
    rw [am] at hq ab
    have b1:=ae ab
    clear ab am
    go_wp2
    refine ⟨⟨k+1,by omega,by go_num,⟨?_,(bI.out.trans (Ext.fM N.out))⟩⟩,by simp [intOf];omega⟩
    rw [b1.out]
    exact o.out.frame N.out.size fun j m=>N.out.block j (o.out.lt j m)
   | true =>
    rw [am] at hq ab
    have b1:=ae ab
    clear ab am
    have Y:=fL wr (.cells #[.int .i64 (bn:Int),.slice V O.length W] 125)
    have ge:=gr (.cells #[.int .i64 (bn:Int),.slice V O.length W] 125) c0
    have dc:=gr (.cells #[.int .i64 (bn:Int),.slice V O.length W] 125) s0
    have gf:(wr.alloc (.cells #[.int .i64 (bn:Int),.slice V O.length W] 125)).frozen? ⟨gs,os+bn,none⟩=false:=(cU (w:=wr) (a:=⟨gs,os+bn,none⟩) (heap_alloc_old wr _ al)).trans sf
    go_upto_region 6 with fail
    obtain ⟨wa,dk⟩:∃ wa,wa=wr.alloc (.cells #[.int .i64 (bn:Int),.slice V O.length W] 125):=⟨_,rfl⟩
    rw [←dk] at N Y ge dc gf⊢
    have n0:wa.cell? ⟨wr.heap.size,0,none⟩=some (.int .i64 (bn:Int)):=af _ _ 0 _ _ _ Y
    have n1:wa.cell? ⟨wr.heap.size,1,none⟩=some (.slice V O.length W):=af _ _ 1 _ _ _ Y
    have b2:=ae (o.out.frame N.out.size fun k hk=>N.out.block k (o.out.lt k hk))
    have gg:=ae (bI.out.trans (Ext.fM N.out))
    have hx:gs<wa.heap.size:=fP dc
    have hy:gs≠wr.heap.size:=by omega
    have hz:=fI Y
    have hj:=fI b2.out.dp.row
    clear dk c0 s0 sf d0 d1 c9 da Y
    go_region
    go_wp2
    have ba:=b2.out.Df (w':=wa.setCell ⟨gs,os+bn,none⟩ (.slice V O.length W)) (F':=F) (n:=bn) (s:=O) (u := .slice V O.length W) bt.out (by show bn<(applySel (pj mask) 0 (H.late.take k) H.held).length;rw [e2.out];exact gc.out)
     (a7.out.fW fun j C fz m _=>N.out.block j (fI m)) (fun _ h=>h) b2.out.lt rfl
    obtain ⟨q1,q2,q3⟩:=ba
    refine ⟨⟨k+1,by omega,by go_num,?_,(gg.out.trans q3).drew⟩,by simp [intOf];omega⟩
    have q4:=q1.frame (w':=(wa.setCell ⟨gs,os+bn,none⟩ (.slice V O.length W)).drew) (ah _) (fun _ _=>rfl)
    rw [b1.out,aF rfl]
    exact q4
  ·obtain rfl:k=H.late.length:=by omega
   have g1:¬(H.late.length:Int)<H.late.length:=by omega
   rw [c7.out] at d
   have c2:=af _ _ 2 _ _ _ d
   have f2:=ao _ _ 2 _ _ d
   have c0:=af _ _ 0 _ _ _ d
   clear d
   rw [be] at o
   obtain ⟨A,hT⟩:∃ A,A=applySel (pj mask) 0 H.late H.held:=⟨_,rfl⟩
   rw [←hT] at o
   have dl:A.length=H.held.length:=by rw [hT];exact mW _ _ _ _
   have HA:=ae hT
   have e4:Hid (∀ b∈A,b.length=64):=ae (by rw [hT];exact oU _ (fun b=>b.length=64) _ _ _ (fun y hU=>(bo.out.ok.late y hU).1) bo.out.ok.h64)
   have hp:H.seen.length=H.held.length:=bo.out.ok.hl.symm
   have b4:=o.out.Iw (w1:=wr.setCell ⟨h,2,none⟩ (.slice none 0 0)) (x' := {x with late := .slice none 0 0}) (H' := {H with held:=A,late:=[],seen:=A.take 0++H.seen.drop 0})
    (heap_setCell _ _ 2 _ o.out.dp.row) (size_setCell _ _ _) ((Ext.refl _ wr).setCell _ _ (.inl rfl)) ⟨rfl,rfl,rfl,rfl,rfl⟩ ⟨rfl,rfl,rfl,rfl,rfl⟩ ⟨o.out.dp.left,o.out.dp.dead,o.out.fail,o.out.writes⟩ o.out.dp.lb (LateAt.nil _ _)
   have dn:Ext F Z (wr.setCell ⟨h,2,none⟩ (.slice none 0 0)):=bI.out.setCell _ _ (.inl o.out.foot.1)
   obtain ⟨ha,e5,U,-,-⟩:=o.out.held.get
   rw [U] at c0
   simp only [dl] at c0
   have bt:=ae U
   have gl:=ae (⟨F,b4,fun j => .inl,dn⟩:EU Z F h x H A 0 _)
   clear hT b4 dn U
   go_upto_region 10 with fail
   clear c0 c2 f2 c9
   generalize wr.setCell ⟨h,2,none⟩ (.slice none 0 0)=w5 at *
   go_loopw [51] (fun i wr=>∃ k:Nat,k≤H.held.length∧i = .int .i64 (k:Int)∧EU Z F h x H A k wr) (fun i _=>H.held.length-(intOf i).toNat)
   case atStart=>exact ⟨0,aL _,rfl,gl.out⟩
   case round =>
    obtain ⟨k,hk,rfl,hrel⟩:=hrel
    obtain ⟨F',a2,ds,dv⟩:=hrel
    have E:=ae a2
    have b5:=ae dv
    have b6:=ae ds
    have d:=a2.dp.row
    unfold HostIs HV.cells at d
    have dT:=fI d
    have b7:(A.take k++H.seen.drop k).length=H.held.length:=by rw [ar,aA,a8];omega
    by_cases bs:k<H.held.length
    ·obtain ⟨b,hb⟩:∃ b,A[k]?=some b:=⟨A[k]'(by omega),ay (by omega)⟩
     have bc:b.length=64:=e4.out b (aZ hb)
     obtain ⟨hA,cv,b8,-,S⟩:=a2.held.get
     obtain ⟨g0,off,u,rfl,d0,r⟩:=S k b hb
     have hS:Value.slice ha A.length e5 = .slice (some ⟨g0,off,none⟩) A.length cv:=bt.out.symm.trans b8
     obtain ⟨rfl,-,rfl⟩:=Value.slice.inj hS
     obtain ⟨gs,os,cap,u0,ca,s0,sf,⟨Cg,ga,bS⟩,gb⟩:=a2.seen.store (n:=k) (by show k<(A.take k++H.seen.drop k).length;omega)
     have bi:x.seen = .slice (some ⟨gs,os,none⟩) (A.take k++H.seen.drop k).length cap:=ca
     rw [b7] at bi
     obtain ⟨V,W,a6,-,-⟩:=r.1.opened
     subst a6
     rw [bc] at d0 r
     have c0:=af _ _ 0 _ _ _ d
     have c1:=af _ _ 1 _ _ _ d
     rw [bt.out] at c0
     simp only [dl] at c0
     simp only [bi] at c1
     have da:g0<wr.heap.size:=fP d0
     have al:gs<wr.heap.size:=fP s0
     have g1:(k:Int)<H.held.length:=by omega
     have a7:=ae r
     have gn:=ae ca
     have b0:=ae hb
     have go:=ae b7
     have hB:(64:Nat)≤gx:=by decide
     have cb:=ae bc
     clear a2 dv ds d hb S b8 hS b7 ca bi r bS bc
     go_upto_region 12 with fail
     go_region_law
      ((first
        | (refine lp rfl (.const (.slice none 0 0)) (.tmp 65) rfl wr.heap.size (.slice none 0 0) 0 [] rfl (OwnS.nil _ _ _) (CellsOf.nil _ _) b (by exact a7.out.1) (by rw [cb.out];omega) (ah _) ?_;intro v7 w7 I hC e6 bv;
           rw [cb.out,bF] at I;obtain ⟨d3,d4,rfl⟩:=I.shape;
           have d6:w7.cell? ⟨gs,os+k,none⟩=some u0:=(bv.cell (p:=⟨gs,os+k,none⟩) al).trans s0;
           have gp:w7.frozen? ⟨gs,os+k,none⟩=false:=(cU (w:=wr) (a:=⟨gs,os+k,none⟩) (bv.block gs al)).trans sf;
           have d7:w7.cell? ⟨h,1,none⟩=some (.slice (some ⟨gs,os,none⟩) H.held.length cap):=(bv.cell (p:=⟨h,1,none⟩) dT).trans c1;
           have gq:=fP d6;have e7:=fP d7)))
     all_goals
      have av:Below wr.heap.size wr w7:=(Below.rf wr).drew.trans bv
      have a3:=(E.out.frame av.size fun j m=>av.block j (E.out.lt j m))
      have ba:=a3.Dp (w':=w7.setCell ⟨gs,os+k,none⟩ (.slice d3 64 d4)) (F':=fun j=>F' j∨(wr.heap.size≤j∧j<w7.heap.size)) (n:=k) (s:=b) (u := .slice d3 64 d4) gn.out (by show k<(A.take k++H.seen.drop k).length;rw [go.out];exact bs)
       ⟨(by have:=I.bytes;exact this),e6,fun j e => .inr ⟨I.fU j e,I.gZ j e⟩⟩ (fun j m => .inl m) (fun j m=>m.elim (fun m=>aC (E.out.lt j m) av.size) fun m=>m.2) rfl
      obtain ⟨q1,q2,q3⟩:=ba
      have d8:(A.take k++H.seen.drop k).set k b=A.take (k+1)++H.seen.drop (k+1):=take_set b0.out (by omega)
      rw [d8] at q1
      clear d6 gp d7 gq e7 d8 a3
      go_wp2
      refine ⟨⟨k+1,by omega,by go_num,⟨_,q1,fun j m => ?_,?_⟩⟩,by simp [intOf];omega⟩
      ·rcases m with m | m
       ·exact b6.out j m
       ·exact .inr (aI b5.out.size m.1)
      ·exact (b5.out.trans (Ext.fM av)).trans' q3 b6.out
    ·obtain rfl:k=H.held.length:=by omega
     have g1:¬(H.held.length:Int)<H.held.length:=by omega
     have d9:A.take H.held.length++H.seen.drop H.held.length=A:=by rw [aS (by omega),fE (by omega),cN]
     rw [d9] at E
     have d5:=af _ _ 5 _ _ _ d
     have z5:=ao _ _ 5 _ _ d
     have a3:Ext (fun i=>i=h) wr (wr.setCell ⟨h,5,none⟩ (.bool false)):=(Ext.refl (fun i=>i=h) wr).setCell ⟨h,5,none⟩ _ (.inl rfl)
     have eb:=E.out.row (w1:=wr.setCell ⟨h,5,none⟩ (.bool false)) (x' := {x with late := .slice none 0 0,dead:=false}) (H' := {H with held:=A,late:=[],seen:=A,dp := {H.dp with dead:=false}}) (heap_setCell _ _ 5 _ E.out.dp.row) (size_setCell _ _ _) a3 ⟨rfl,rfl,rfl,rfl,rfl,rfl⟩ ⟨rfl,rfl,rfl,rfl,rfl,rfl⟩ ⟨E.out.dp.left,rfl,E.out.fail,E.out.writes⟩ E.out.dp.lb
     have ec:X≠h:=fun e=>(HF.out h bl.out).2 e.symm
     have ce:Ext F Z (wr.setCell ⟨h,5,none⟩ (.bool false)):=b5.out.setCell ⟨h,5,none⟩ _ (.inl bl.out)
     have ed:=ce.at (fun e=>(HF.out X e).2 rfl) a0.out
     have gt:=ae (E4 X h (.pointer ap) F' _ _ cut _ ed eb hc)
     have hD:=ae ec
     have gu:=ae ce
     clear d a3 eb ce ed ec d9
     go_wp2_with fail
     refine gt.out.mono ?_
     rintro e w8 ⟨rfl,eg,ej,gv⟩
     have cf:Ext F Z w8:=gu.out.trans (ej.mono fun j e=>e▸bl.out)
     have el:=cf.at (fun e=>(HF.out X e).2 rfl) a0.out
     have gz:=ae (DM X h (.pointer ap) F' _ _ fail _ el eg)
     have g3:=ae cf
     clear eg ej gv cf el d5 z5 dT
     go_wp2_with fail
     refine gz.out.mono ?_
     rintro e w9 ⟨rfl,ci,em,bw⟩
     have a4:Ext F Z w9:=g3.out.trans (em.mono fun j e=>e▸bl.out)
     have en:=a4.at (fun e=>(HF.out X e).2 rfl) a0.out
     have er:=c5.out
     have bx:Ext M Z w9:=a4.mono fun j m=>(HF.out j m).1
     have hE:=fB.out
     have hG:=f0.out
     have eC:=a4.at (fun e=>dD _ (er _ e)) f3.out
     have bw:=a4.size
     have g4:=ae (vG n B X h l (fun j=>(F j∨j=X)∨Z.heap.size≤j) F' (H.again mask cut fail) (.pointer ap) w9 en (.inl (.inr rfl)) ⟨_,by rw [HA.out] at ci;exact ci⟩ (fun j m=>by
       rcases b6.out j m with q | q
       ·exact ⟨.inl (.inl q),(HF.out j q).2⟩
       ·exact ⟨.inr q,by omega⟩) (bo.out.again mask cut fail hc hf) hW HO.out (f4.out.ext bx br.out) (f5.out.ext bx br.out) (fun j m=>by
       rcases m with (q | q) | q
       ·exact br.out j (HF.out j q).1
       ·exact q▸br.out X hX
       ·omega))
     have g5:=ae bx
     have g6:=ae eC
     have g7:=ae bw
     clear ci em a4 en bx eC bw er
     go_wp2_with fail
     refine g4.out.mono ?_
     rintro e cl co
     rw [←c6.out] at co
     obtain ⟨kk,hV,ss,P',rfl,⟨M3,J,eD,bk⟩,cp⟩:=co.op
     have cq:¬((F w.heap.size∨w.heap.size=X)∨Z.heap.size≤w.heap.size):=fun e=>by
      rcases e with (e | e) | e
      ·exact dD _ (c5.out _ e)
      ·omega
      ·omega
     have D:=bk.at cq g6.out
     have fg:=ae D
     have fi:=ae cp
     have fk:=ae J
     have eS:=ae eD
     have fl:=ae bk
     have g8:=ae cq
     have hH:=af _ _ 0 _ _ _ D
     have hI:=af _ _ 1 _ _ _ D
     have hJ:=af _ _ 2 _ _ _ D
     have hL:=ao _ _ 0 _ _ D
     have hM:=ao _ _ 1 _ _ D
     have hN:=ao _ _ 2 _ _ D
     have hO:=fI D
     clear co J eD bk cp cq D c6
     unfold pZ
     go_wp2
     have cr:=sG fg.out (.int .i64 (kk:Nat)) (.int .i64 (hV:Nat)) (.int .i64 (ss:Nat))
     have q0:=af _ _ 0 _ _ _ cr
     have q1:=af _ _ 1 _ _ _ cr
     have q2:=af _ _ 2 _ _ _ cr
     have cs:Ext (fun k=>k=w.heap.size) cl (wj cl w.heap.size (.int .i64 (kk:Nat)) (.int .i64 (hV:Nat)) (.int .i64 (ss:Nat))):=qo cl w.heap.size _ _ _
     unfold wj at q0 q1 q2 cs
     refine aK (v:=pZ kk hV ss) (by simp [results,Tryz.results21,go_sem,q0,q1,q2,pZ]) rfl ?_
     have bw:=g7.out
     refine fi.out _ _ _ ⟨M3,fk.out.frame cs fun j m e => ?_,fun j m => ?_,?_⟩
     ·have e':j=w.heap.size:=e
      subst e'
      rcases eS.out _ m with q | q
      ·exact g8.out q
      ·omega
     ·rcases eS.out _ m with ((q | q) | q) | q
      ·exact .inl (HF.out j q).1
      ·exact .inl (q▸hX)
      ·exact .inr (by omega)
      ·exact .inr (by omega)
     ·refine ((((Ext.fM f1.out).trans g5.out).trans' fl.out fun j m => ?_).trans' cs fun j e => .inr (by have e':j=w.heap.size:=e;omega))
      rcases m with (q | q) | q
      ·exact .inl (HF.out j q).1
      ·exact .inl (q▸hX)
      ·exact .inr (by omega)
end Go.Proofs.YtkkfmkhbdoeglaaGreatDoor
namespace Go.Proofs.YtkkfmkhbdoeglaaGreatDoor
open Go.RowKit Go.Shelf
structure mJ (w:World) (K:Nat→Prop) (X:Nat) (H:fJ) (P:Option PAg):Prop where
 host:∃ M,HostX w M X H P∧∀ k,M k→¬K k
 sh:ShapesVar w
 er:ErrVar w
 lo:∀ k,k<2→K k
 lt:∀ k,K k→k<w.heap.size
abbrev lL (K:Nat→Prop) (w w':World):Prop:=Ext (fun k=>¬K k) w w'
theorem mJ.below {w w':World} {K:Nat→Prop} {X:Nat} {H:fJ} {P:Option PAg} (h:mJ w K X H P) (b:Below w.heap.size w w'):mJ w' K X H P:=by
 obtain ⟨⟨M,h1,h2⟩,h3,h4,h5,h6⟩:=h
 exact ⟨⟨M,h1.below b,h2⟩,h3.new b,h4.new b,h5,fun k hk=>aC (h6 k hk) b.size⟩
theorem mJ.two {w:World} {K:Nat→Prop} {X:Nat} {H:fJ} {P:Option PAg} (h:mJ w K X H P) {M:Nat→Prop} (b:∀ k,M k→¬K k):∀ k,M k→2≤k:=fun k hk=>Nat.not_lt.1 fun e=>b k hk (h.lo k e)
theorem mJ.oq {w w':World} {K:Nat→Prop} {X:Nat} {M:Nat→Prop} {H H':fJ} {P P':Option PAg} (h:mJ w K X H P) (b:∀ k,M k→¬K k) (d:jx w M X H' P' w'):mJ w' K X H' P'∧lL K w w':=by
 obtain ⟨i,g1,g2,g3⟩:=d
 have j:lL K w w':=g3.mono b
 have h2:=h.two b
 exact ⟨⟨⟨i,g1,fun k hk=>(g2 k hk).elim (b k) fun e hK=>dD _ (aC (h.lt k hK) e)⟩,h.sh.ext g3 h2,h.er.ext g3 h2,h.lo,fun k hk=>aC (h.lt k hk) g3.size⟩,j⟩
theorem mJ.other {w w':World} {K D:Nat→Prop} {X:Nat} {H:fJ} {P:Option PAg} (h:mJ w K X H P) (b:Ext D w w') (d:∀ k,D k→K k) (h2:∀ k,D k→2≤k):mJ w' K X H P:=by
 obtain ⟨⟨M,h1,h3⟩,h4,h5,h6,h7⟩:=h
 exact ⟨⟨M,h1.frame b fun k hk e=>h3 k hk (d k e),h3⟩,h4.ext b h2,h5.ext b h2,h6,fun k hk=>aC (h7 k hk) b.size⟩
theorem Dt.lt {w:World} {M:Nat→Prop} {a h:Nat} {H:fJ} {P:PAg} (hm:Dt w M a h H P):Dt w (fun k=>M k∧k<w.heap.size) a h H P:=by
 obtain ⟨F,G,O,x,h1,h2⟩:=hm
 exact ⟨F,G,O,x,h1,fun k hk=>⟨h2 k hk,hk.elim (h1.host.lt k) fun hk=>hk.elim (h1.ag.glt k) (h1.ag.olt k)⟩⟩
theorem HostX.bound {w:World} {M:Nat→Prop} {X:Nat} {H:fJ} {P:Option PAg} (b:HostX w M X H P):HostX w (fun k=>M k∧k<w.heap.size) X H P:=by
 obtain ⟨h,d,h1,h2,h3⟩:=b
 refine ⟨h,d,h1,⟨h2,fI h1⟩,?_⟩
 cases P with
 | none =>
  obtain ⟨h4,F,h5,h6⟩:=h3
  exact ⟨h4,F,h5,fun k hk=>⟨⟨(h6 k hk).1,h5.lt k hk⟩,(h6 k hk).2⟩⟩
 | some p =>
  obtain ⟨a,i,h4,h5,h6⟩:=h3
  exact ⟨a,_,h4,h5.lt,fun k hk=>⟨⟨(h6 k hk.1).1,hk.2⟩,(h6 k hk.1).2⟩⟩
theorem mJ.yN {w w':World} {K:Nat→Prop} {X:Nat} {H:fJ} {P:Option PAg} (h:mJ w K X H P) (b:Below w.heap.size w w') (D:Nat→Prop) (d:∀ k,D k→w.heap.size≤k∧k<w'.heap.size):mJ w' (fun k=>K k∨D k) X H P:=by
 obtain ⟨⟨M,h1,h2⟩,h3,h4,h5,h6⟩:=h
 exact ⟨⟨_,h1.bound.below b,fun k hk e=>e.elim (h2 k hk.1) fun e=>by have:=(d k e).1;have:=hk.2;omega⟩,h3.new b,h4.new b,fun k hk => .inl (h5 k hk),fun k hk=>hk.elim (fun hk=>aC (h6 k hk) b.size) fun hk=>(d k hk).2⟩
theorem mJ.less {w:World} {K b:Nat→Prop} {X:Nat} {H:fJ} {P:Option PAg} (h:mJ w K X H P) (hK:∀ k,b k→K k) (h2:∀ k,k<2→b k):mJ w b X H P:=by
 obtain ⟨⟨M,h1,h3⟩,h4,h5,h6,h7⟩:=h
 exact ⟨⟨M,h1,fun k hk e=>h3 k hk (hK k e)⟩,h4,h5,h2,fun k hk=>h7 k (hK k hk)⟩
theorem mJ.new {w w':World} {M:Nat→Prop} {X:Nat} {H:fJ} {P:Option PAg} (j:HostX w' M X H P) (l:∀ k,M k→w.heap.size≤k) (d:Below w.heap.size w w') (b:ShapesVar w) (i:ErrVar w):mJ w' (fun k=>k<w.heap.size) X H P :=
 ⟨⟨M,j,fun k hk e=>by have:=l k hk;omega⟩,b.new d,i.new d,fun k hk=>aC hk b.two,fun k hk=>aC hk d.size⟩
theorem lL.below {K:Nat→Prop} {w w':World} {b:Nat} (h:lL K w w') (d:b≤w.heap.size) (hK:∀ k,k<b→K k):Below b w w':=Ext.below h d fun k hk e=>e (hK k hk)
theorem lL.at {K:Nat→Prop} {w w':World} (h:lL K w w') {b:Nat} {o:Obj} (hK:K b) (d:w.heap[b]?=some o):w'.heap[b]?=some o:=Ext.at h (fun e=>e hK) d
variable (K:Nat→Prop) (X:Nat) (H:fJ) (P:Option PAg) (p:PAg) (w:World)
theorem Hc (h:mJ w K X H P):Calls Tryz.prog 41 #[.pointer (some ⟨X,0,none⟩)] w fun e w'=>e = .returned (.bool P.isSome)∧w'=w:=by
 obtain ⟨⟨M,h1,-⟩,-⟩:=h
 exact GJ M X H P w h1
theorem tA (h:mJ w K X H P):Calls Tryz.prog 28 #[.pointer (some ⟨X,0,none⟩)] w fun e w'=>e = .returned (.bool H.dp.dead)∧w'=w:=by
 obtain ⟨⟨M,h1,-⟩,-⟩:=h
 exact DR M X H P w h1
theorem sH (h:mJ w K X H (some p)):Calls Tryz.prog 15 #[.pointer (some ⟨X,0,none⟩)] w fun e w'=>e = .returned (.int .u64 (p.a.V:Nat))∧w'=w:=by
 obtain ⟨⟨M,h1,-⟩,-⟩:=h
 exact yK M X H p w h1
theorem tB (h:mJ w K X H (some p)) (b:p.a.Fit):Calls Tryz.prog 18 #[.pointer (some ⟨X,0,none⟩)] w fun e w'=>e = .returned (Ax p.a.next.2)∧mJ w' K X H (some {p with a:=p.a.next.1})∧lL K w w':=by
 obtain ⟨M,h1,h2⟩:=h.host
 refine (DS M X H p w h1 b).mono ?_
 rintro e w' ⟨h3,h4⟩
 exact ⟨h3,h.oq h2 h4⟩
theorem nj {n B:Nat} {l:List Int} (frame:List UInt8) (h:mJ w K X H (some p)) (b:uT n l B H p) (hl:frame.length≤1000000):Calls Tryz.prog 12 #[.pointer (some ⟨X,0,none⟩),.string ⟨frame.toArray⟩] w fun e w'=>e = .returned (.tuple #[])∧mJ w' K X (iy H p frame).1 (some (iy H p frame).2)∧lL K w w':=by
 obtain ⟨M,h1,h2⟩:=h.host
 refine (yI n B X l M H p frame w h1 b hl h.sh h.er (h.two h2)).mono ?_
 rintro e w' ⟨h3,h4⟩
 exact ⟨h3,h.oq h2 h4⟩
theorem zn (h:mJ w K X H (some p)) (b:p.a.T.length≤1000000000):Calls Tryz.prog 16 #[.pointer (some ⟨X,0,none⟩)] w fun e w'=>∃ v,e = .returned (.tuple #[v,.bool true])∧ic w' v p.a.T∧(∀ k,v.ownBlock=some k→w.heap.size≤k)∧Below w.heap.size w w':=by
 obtain ⟨M,h1,h2⟩:=h.host
 exact yH M X H p w h1 b
theorem ER (h:mJ w K X H P) (b:H.dp.S.length≤1000000):Calls Tryz.prog 29 #[.pointer (some ⟨X,0,none⟩)] w fun e w'=>∃ v,e = .returned v∧ic w' v H.dp.S∧Below w.heap.size w w':=by
 obtain ⟨M,h1,h2⟩:=h.host
 exact DQ M X H P w h1 b
theorem Gk (n:Int) (h:mJ w K X H P) (b:n≤9223372036854775807):Calls Tryz.prog 26 #[.pointer (some ⟨X,0,none⟩),.int .i64 n] w fun e w'=>e = .returned (.tuple #[])∧mJ w' K X {H with dp := {H.dp with left:=max n (-1)}} P∧lL K w w':=by
 obtain ⟨M,h1,h2⟩:=h.host
 refine (Fe M X H P n w h1 b).mono ?_
 rintro e w' ⟨h3,h4,-⟩
 exact ⟨h3,h.oq h2 h4⟩
def HI (w:World) (K:Nat→Prop) (X:Nat) (R:fJ×(PAg⊕(Nat×Nat×Nat))) (e:Ending) (w':World):Prop:=(match R with
 | (H',.inr (k,at',s))=>e = .returned (pZ k at' s)∧mJ w' K X H' none
 | (H',.inl p)=>e = .returned (pZ 0 0 0)∧mJ w' K X H' (some p))∧lL K w w'
theorem zo {n B:Nat} {l:List Int} (mask cut fail:Int) (h:mJ w K X H P) (b:Fine n l B H) (d:B≤800000000) (i:mS n l (H.again mask cut fail).seen) (hm : -9223372036854775808≤mask∧mask≤9223372036854775807) (hc:cut≤9223372036854775807) (j:fail≤9223372036854775807) :
  Calls Tryz.prog 21 #[.pointer (some ⟨X,0,none⟩),.int .i64 mask,.int .i64 cut,.int .i64 fail] w (HI w K X (ia (H.again mask cut fail))):=by
 obtain ⟨M,h1,h2⟩:=h.host
 refine (yJ n B X l M H P mask cut fail w h1 b d i hm hc j h.sh h.er (h.two h2)).mono ?_
 intro e w' h3
 generalize ia (H.again mask cut fail)=R at h3⊢
 obtain ⟨H',r⟩:=R
 cases r with
 | inl q=>exact ⟨⟨h3.1,(h.oq h2 h3.2).1⟩,(h.oq h2 h3.2).2⟩
 | inr y =>
  obtain ⟨k,a,s⟩:=y
  exact ⟨⟨h3.1,(h.oq h2 h3.2).1⟩,(h.oq h2 h3.2).2⟩
end Go.Proofs.YtkkfmkhbdoeglaaGreatDoor
namespace Go.Proofs.YtkkfmkhbdoeglaaGreatDoor
theorem ru:∀ (l:List (List UInt8)) (H:fJ) (n f:Nat),(gD l H n).2=some f→f≤n+l.length+1
 | [],H,n,f,h=>by cases h
 | s::l,H,n,f,h=>by
  unfold gD at h
  have h1:∀ g,(H.write n s).2=some g→g=n+2:=fun g b=>by
   unfold fJ.write at b
   split at b
   ·cases b;rfl
   ·cases b
  generalize H.write n s=q at h h1
  obtain ⟨H1,r⟩:=q
  cases r with
  | some g =>
   obtain rfl:g=f:=by simpa using h
   have:=h1 g rfl
   rw [au]
   omega
  | none =>
   have:=ru l H1 (n+1) f h
   rw [au]
   omega
theorem qc {H:fJ} {g:LogS} {at' f:Nat} {data:List UInt8} (h:(fO H g at' data).2=some f):f≤at'+partsOf data.length+1:=by
 unfold fO at h
 have h1:=ru (gj (g.stamp+1) data) H at'
 rw [iU] at h1
 generalize gD (gj (g.stamp+1) data) H at'=q at h h1
 obtain ⟨H1,r⟩:=q
 cases r with
 | some k =>
  obtain rfl:k=f:=by simpa using h
  exact h1 k rfl
 | none =>
  simp only at h
  unfold fJ.flush at h
  split at h
  ·cases h;omega
  ·split at h <;> cases h
theorem vM {H:fJ} {g:LogS} {v f:Nat} {T:List E} (h:(fT H g v T).2.2=some f):f≤placeOf H.seen.length+partsOf (gH v T).length+1:=by
 unfold fT at h
 have h1:∀ f,(fO H g ((1-g.slot)*placeOf H.seen.length) (gH v T)).2=some f→f≤(1-g.slot)*placeOf H.seen.length+partsOf (gH v T).length+1:=fun f=>qc
 have h2:(1-g.slot)*placeOf H.seen.length≤placeOf H.seen.length:=by
  rcases (show 1-g.slot=0∨1-g.slot=1 by omega) with e | e <;> rw [e] <;> omega
 generalize fO H g ((1-g.slot)*placeOf H.seen.length) (gH v T)=q at h h1
 obtain ⟨H1,r⟩:=q
 cases r with
 | some k =>
  obtain rfl:k=f:=by simpa [Ci] using h
  have:=h1 k rfl
  omega
 | none=>cases h
theorem vS {H:fJ} {g:LogS} {f:Nat} {b:List UInt8} (h:(gI H g b).2.2=some f):f≤g.next+partsOf b.length+1:=by
 unfold gI at h
 have h1:∀ f,(fO H g g.next b).2=some f→f≤g.next+partsOf b.length+1:=fun f=>qc
 generalize fO H g g.next b=q at h h1
 obtain ⟨H1,r⟩:=q
 cases r with
 | some k =>
  obtain rfl:k=f:=by simpa [qf] using h
  exact h1 k rfl
 | none=>cases h
theorem EF {n:Nat} {l:List Int} {B:Nat} {H:fJ} {P:PAg} {tk:ie} (i:Fine n l B H) (hu:UpAg n l H P) (x:uV P tk) (b:P.a.Fit) (y:tk.V<18446744073709551615) :
  (jU H P tk).2.a.Fit∧∀ f,(jU H P tk).2.a.deg=some f→1≤f.1∧f.1≤14∧(jU H P tk).2.sec≤100000:=by
 have m:∀ (a:AgA) (f:Nat×Nat),(a.stops f).deg=some f:=fun a f=>(jD {a with deg:=some f} 18 [UInt8.ofNat f.1]).1
 unfold jU
 cases hl:iq (tk.T P.a.T) H.dp.room H.seen.length with
 | some f =>
  simp only
  refine ⟨b.stops f,fun g d => ?_⟩
  rw [m] at d
  cases d
  unfold iq at hl
  split at hl
  ·cases hl;exact ⟨by show 1≤10;omega,by show 10≤14;omega,by show 0≤_;omega⟩
  ·split at hl
   ·cases hl;exact ⟨by show 1≤11;omega,by show 11≤14;omega,by show 0≤_;omega⟩
   ·cases hl
 | none =>
  simp only
  rw [i.dp.room,i.len] at hl
  obtain ⟨s,-⟩:=x.tab hu hl
  have u:=i.ok.n
  rw [i.len] at u
  have C:=jf u.1 u.2
  have o:∀ (v:Nat) (T:List E),sizeS T≤16*(n-8)→partsOf (gH v T).length≤placeOf n:=fun v T h=>mB (by rw [lH];omega)
  have key:∀ f,(tk.log H P).2.2=some f→f≤100000:=by
   intro f h
   cases tk with
   | state v T =>
    have h1:=vM h
    rw [i.len] at h1
    have:=o v T s.size
    omega
   | delta v os =>
    have j:(gR H P.lg (jo v os) P.a.V P.a.T).2.2=some f:=h
    have hlen:(jo v os).length≤700:=x.2.2.2.2.1
    have D:partsOf (jo v os).length≤14:=by unfold partsOf;omega
    have F:=hu.disk.next
    unfold gR at j
    split at j
    ·have h1:∀ f,(fT H P.lg P.a.V P.a.T).2.2=some f→f≤placeOf H.seen.length+partsOf (gH P.a.V P.a.T).length+1:=fun f=>vM
     have h2:(fT H P.lg P.a.V P.a.T).2.2=none→(fT H P.lg P.a.V P.a.T).2.1.next=2*placeOf H.seen.length:=by
      unfold fT
      generalize fO H P.lg ((1-P.lg.slot)*placeOf H.seen.length) (gH P.a.V P.a.T)=q
      obtain ⟨H1,r⟩:=q
      cases r with
      | some f=>intro e;cases e
      | none=>intro _;rfl
     have h3:=o P.a.V P.a.T hu.tab.size
     rw [i.len] at h1 h2
     generalize fT H P.lg P.a.V P.a.T=q at j h1 h2
     obtain ⟨H1,g1,r⟩:=q
     cases r with
     | some k =>
      obtain rfl:k=f:=by simpa [FM] using j
      have:=h1 k rfl
      omega
     | none =>
      have h4:=vS (show (gI H1 g1 (jo v os)).2.2=some f from j)
      have h5:g1.next=2*placeOf n:=h2 rfl
      omega
    ·have:=vS j
     omega
  generalize tk.log H P=q at key
  obtain ⟨H1,g1,r⟩:=q
  cases r with
  | some f =>
   refine ⟨b.stops _,fun g d => ?_⟩
   rw [show (uL P tk (H1,g1,some f)).2.a=P.a.stops (12,0) from rfl,m] at d
   cases d
   exact ⟨by show 1≤12;omega,by show 12≤14;omega,key f rfl⟩
  | none =>
   refine ⟨AgA.Fit.lJ ⟨y,b.out,b.olen,b.com⟩,fun g d => ?_⟩
   have h1:(AgA.lJ {P.a with V:=tk.V,T:=tk.T P.a.T}).deg=P.a.deg:=(jD {P.a with V:=tk.V,T:=tk.T P.a.T} 17 (j4 tk.V)).1
   have h2:(uL P tk (H1,g1,none)).2.a=AgA.lJ {P.a with V:=tk.V,T:=tk.T P.a.T} := rfl
   rw [h2,h1,hu.deg] at d
   cases d
structure MachSt (n:Nat) (l:List Int) (s B:Nat) (H:fJ) (P:Option PAg) (a:AgA) (maybe:List (Nat×List E)) (ever:List E) (armed:Bool):Prop where
 inv:WInv n l s H P a maybe ever armed
 fine:Fine n l B H
 fit:∀ p,P=some p→p.a.Fit
 sec:∀ p f,P=some p→p.a.deg=some f→1≤f.1∧f.1≤14∧p.sec≤100000
theorem MachSt.recv {n:Nat} {l:List Int} {s B:Nat} {H:fJ} {p:PAg} {a:AgA} {maybe:List (Nat×List E)} {ever:List E} {armed:Bool} (h:MachSt n l s B H (some p) a maybe ever armed) (hd:H.dp.dead=false) (frame:List UInt8) {s':Nat} {P':Option PAg} {x:AgA} {b:List (Nat×List E)} {ever':List E} {d:Bool} (y:P'=some (iy H p frame).2) (hw:WInv n l s' (iy H p frame).1 P' x b ever' d):MachSt n l s' (B+1000) (iy H p frame).1 P' x b ever' d:=by
 subst y
 refine ⟨hw,h.fine.recv h.inv hd frame,?_,?_⟩
 all_goals
  obtain ⟨g1,g2,g3,g5,g6⟩:=h.inv.up p rfl hd
  have j:=h.inv.tabs _ h.inv.self
  have i:=(h.fit p rfl).taken frame
  have m:∀ f,p.a.deg=some f→1≤f.1∧f.1≤14∧p.sec≤100000:=fun f=>h.sec p f rfl
  have key:(iy H p frame).2.a.Fit∧∀ f,(iy H p frame).2.a.deg=some f→1≤f.1∧f.1≤14∧(iy H p frame).2.sec≤100000:=by
   unfold iy
   rw [g1] at i m⊢
   cases o:a.taken frame with
   | mk a1 r =>
    rw [o] at i
    cases r with
    | none =>
     refine ⟨i,fun f C => ?_⟩
     obtain ⟨-,-,h3⟩:=pw o
     exact m f (by rw [←h3];exact C)
    | some tk =>
     obtain ⟨t1,t2,t3,t4,t5,t6⟩:=px o j.sorted j.good p.sec p.lg
     obtain ⟨u,u2,u3⟩:=g5 t1
     have u1:=u.disk
     rw [g1,←t2,←t3] at u1
     have ut:=u.tab
     rw [g1,←t2,←t3] at ut
     refine EF (P := {p with a:=a1}) h.fine ⟨u1,by rw [t3];exact g3,u.room,ut,t4.trans t1⟩ t6 i ?_
     cases tk with
     | delta v os=>exact j5 t6.2.1
     | state v T=>exact j5 t6.2.1
 ·intro q hq
  cases hq
  exact key.1
 ·intro q f hq
  cases hq
  exact key.2 f
def gV (d:DpS):Prop:=d.left = -1∧d.dead=false
theorem gV.stop {d:DpS} (h:gV d):gV d.stop:=by
 have:d.stop=d:=by
  obtain ⟨l,b,r,S,g⟩:=d
  obtain ⟨h1,h2⟩:=h
  simp only at h1 h2
  subst h1 h2
  rfl
 rw [this]
 exact h
theorem gV.run:∀ (os:List ry) {d:DpS},gV d→gV (d.run os)
 | [],_,h=>h
 | o::os,d,h=>by
  refine gV.run os (d:=d.step o) ?_
  have hs:=h.stop
  obtain ⟨k,v⟩:=o
  cases v with
  | none =>
   unfold DpS.step DpS.drop
   simp only
   split <;> exact hs
  | some v =>
   unfold DpS.step DpS.put
   simp only
   split
   ·exact hs
   ·split <;> exact hs
theorem gV.write {H:fJ} (h:gV H.dp) (n:Nat) (s:List UInt8):gV (H.write n s).1.dp:=by
 unfold fJ.write
 split
 ·exact h
 ·exact h.stop
theorem gV.writes:∀ (ps:List (List UInt8)) (H:fJ) (n:Nat),gV H.dp→gV (gD ps H n).1.dp
 | [],_,_,h=>h
 | s::ps,H,n,h=>by
  unfold gD
  have h1:=h.write n s
  generalize H.write n s=q at h1⊢
  obtain ⟨H1,r⟩:=q
  cases r with
  | some f=>exact h1
  | none=>exact gV.writes ps H1 (n+1) h1
theorem gV.flush {H:fJ} (h:gV H.dp):gV H.flush.1.dp:=by
 unfold fJ.flush
 split
 ·exact h
 ·split <;> exact h.stop
theorem gV.fO {H:fJ} (h:gV H.dp) (g:LogS) (n:Nat) (b:List UInt8):gV (fO H g n b).1.dp:=by
 unfold _root_.Go.Proofs.YtkkfmkhbdoeglaaGreatDoor.fO
 have h1:=gV.writes (gj (g.stamp+1) b) H n h
 generalize gD (gj (g.stamp+1) b) H n=q at h1⊢
 obtain ⟨H1,r⟩:=q
 cases r with
 | some f=>exact h1
 | none=>exact h1.flush
theorem gV.fT {H:fJ} (h:gV H.dp) (g:LogS) (v:Nat) (T:List E):gV (fT H g v T).1.dp:=by
 unfold _root_.Go.Proofs.YtkkfmkhbdoeglaaGreatDoor.fT
 have h1:=h.fO g ((1-g.slot)*placeOf H.seen.length) (gH v T)
 generalize _root_.Go.Proofs.YtkkfmkhbdoeglaaGreatDoor.fO H g ((1-g.slot)*placeOf H.seen.length) (gH v T)=q at h1⊢
 obtain ⟨H1,r⟩:=q
 cases r with
 | some f=>exact h1
 | none=>exact h1
theorem gV.gI {H:fJ} (h:gV H.dp) (g:LogS) (b:List UInt8):gV (gI H g b).1.dp:=by
 unfold _root_.Go.Proofs.YtkkfmkhbdoeglaaGreatDoor.gI
 have h1:=h.fO g g.next b
 generalize _root_.Go.Proofs.YtkkfmkhbdoeglaaGreatDoor.fO H g g.next b=q at h1⊢
 obtain ⟨H1,r⟩:=q
 cases r with
 | some f=>exact h1
 | none=>exact h1
theorem gV.gR {H:fJ} (h:gV H.dp) (g:LogS) (b:List UInt8) (v:Nat) (T:List E):gV (gR H g b v T).1.dp:=by
 unfold _root_.Go.Proofs.YtkkfmkhbdoeglaaGreatDoor.gR
 split
 ·have h1:=h.fT g v T
  generalize _root_.Go.Proofs.YtkkfmkhbdoeglaaGreatDoor.fT H g v T=q at h1⊢
  obtain ⟨H1,g1,r⟩:=q
  cases r with
  | some f=>exact h1
  | none=>exact gV.gI (H:=H1) h1 g1 b
 ·exact h.gI g b
theorem gV.takes {H:fJ} (h:gV H.dp) (p:PAg) (tk:ie):gV (jU H p tk).1.dp:=by
 unfold jU
 split
 ·exact h
 ·have h1:gV (tk.log H p).1.dp:=by
   cases tk with
   | delta v os=>exact h.gR _ _ _ _
   | state v T=>exact h.fT _ _ _
  generalize tk.log H p=q at h1⊢
  obtain ⟨H1,g1,r⟩:=q
  cases r with
  | some f=>exact h1
  | none=>exact gV.run _ h1
theorem gV.recv {H:fJ} (h:gV H.dp) (p:PAg) (frame:List UInt8):gV (iy H p frame).1.dp:=by
 unfold iy
 split
 ·exact h
 ·exact h.takes _ _
theorem gV.start {H:fJ} (h:gV H.dp):gV (ia H).1.dp:=by
 unfold ia readAll
 split
 ·rename_i H1 f he
  split at he
  ·cases he;exact h
  ·cases he
 ·rename_i H1 he
  have h1:gV H1.dp:=by
   split at he
   ·cases he
   ·cases he;exact h
  simp only
  split
  ·exact h1
  ·exact gV.run _ h1
theorem Ea (a:AgA):a.next.1.V=a.V∧a.next.1.T=a.T∧a.next.1.deg=a.deg:=by
 unfold AgA.next
 split <;> exact ⟨rfl,rfl,rfl⟩
theorem MachSt.own {n:Nat} {l:List Int} {s B:Nat} {H:fJ} {p:PAg} {a a1:AgA} {maybe:List (Nat×List E)} {ever:List E} {armed:Bool} (h:MachSt n l s B H (some p) a maybe ever armed) (h1:a1.V=a.V) (h2:a1.T=a.T) (h3:a1.deg=a.deg) (b:p.a.deg=a.deg) (d:a1.Fit):MachSt n l s B H (some {p with a:=a1}) a1 maybe ever armed :=
 ⟨h.inv.own h1 h2 h3,h.fine,fun q hq=>by cases hq;exact d,fun q f hq hd=>by
  cases hq
  exact h.sec p f rfl (by rw [b,←h3];exact hd)⟩
theorem MachSt.oq {n:Nat} {l:List Int} {s B:Nat} {H:fJ} {P:Option PAg} {a:AgA} {maybe:List (Nat×List E)} {ever:List E} {armed:Bool} (h:MachSt n l s B H P a maybe ever armed) (k i d:Int) (lg:List (List UInt8)) (b:Bool) (ha:0≤d→b=true) (hk:0≤k∧k≤B) (h1 : -1≤i∧i≤9223372036854775807) (h2 : -1≤d∧d≤9223372036854775807) (h3:lg.length≤B) :
  MachSt n l s B {H with writes:=k,fail:=d,dp := {H.dp with left:=i,log:=lg}} P a maybe ever b:=⟨h.inv.oq k i d lg b ha,h.fine.oq k i d lg hk h1 h2 h3,h.fit,h.sec⟩
theorem MachSt.mono {n:Nat} {l:List Int} {s t B C:Nat} {H:fJ} {P:Option PAg} {a:AgA} {maybe:List (Nat×List E)} {ever ever':List E} {armed:Bool} (h:MachSt n l s B H P a maybe ever armed) (hs:s≤t) (b:B≤C) (he:∀ x∈ever,x∈ever'):MachSt n l t C H P a maybe ever' armed:=⟨h.inv.mono hs he,h.fine.mono b,h.fit,h.sec⟩
theorem AQ {H H':fJ} {k at' f:Nat} (b:32≤H.seen.length∧H.seen.length≤128) (h:ia H=(H',.inr (k,at',f))):f≤100000:=by
 unfold ia readAll at h
 split at h
 ·rename_i H1 g he
  split at he
  ·cases he;cases h;omega
  ·cases he
 ·rename_i H1 he
  simp only at h
  split at h
  ·cases h;omega
  ·cases h
theorem MachSt.ph {n:Nat} {l:List Int} {s B:Nat} {H:fJ} {P:Option PAg} {a:AgA} {maybe:List (Nat×List E)} {ever:List E} {armed:Bool} (h:MachSt n l s B H P a maybe ever armed) (mask cut fail:Int) (hc:cut≤9223372036854775807) (j:fail≤9223372036854775807) :
  (∃ H' f,ia (H.again mask cut fail)=(H',.inr (12,0,f))∧1≤f∧f≤100000∧0≤fail∧MachSt n l s (B+480) H' none a maybe ever (decide (0≤fail))∧∀ x∈H'.dp.S,x∈ever)∨
  (∃ H' p v T,ia (H.again mask cut fail)=(H',.inl p)∧(v,T)∈maybe∧p.a=begunA v T∧(∀ x∈H'.dp.S,x∈ever)∧(H'.dp.dead=true→MachSt n l s (B+480) H' (some p) a maybe ever (decide (0≤fail)))∧
   (H'.dp.dead=false→MachSt n l s (B+480) H' (some p) (begunA v T) [(v,T)] ever (decide (0≤fail)))):=by
 have b:=(h.fine.again mask cut fail hc j).start (h.inv.opens mask cut fail)
 rcases h.inv.ph mask cut fail with ⟨H',f,h1,h2,h3,h4,h5⟩ | ⟨H',p,v,T,h1,h2,h3,h4,h5,h6⟩
 ·left
  have m:=AQ (h.fine.again mask cut fail hc j).ok.n h1
  rw [h1] at b
  exact ⟨H',f,h1,h2,m,h3,⟨h4,b,fun q hq=>(by cases hq),fun q f hq=>(by cases hq)⟩,h5⟩
 ·right
  rw [h1] at b
  have d:p.a.Fit:=by rw [h3];exact AgA.Fit.begun v T (h.inv.tabs _ h2).v64
  have i:∀ q f,some p=some q→q.a.deg=some f→1≤f.1∧f.1≤14∧q.sec≤100000:=fun q f hq hd=>by
   cases hq
   rw [h3,(jK v T).2.2] at hd
   cases hd
  exact ⟨H',p,v,T,h1,h2,h3,h4,fun hd=>⟨h5 hd,b,fun q hq=>(by cases hq;exact d),i⟩,fun hd=>⟨h6 hd,b,fun q hq=>(by cases hq;exact d),i⟩⟩
theorem MachSt.begun (n:Nat) (l:List Int) (i:32≤n∧n≤128) :
  ∃ H' p,ia (nb n (roomN l))=(H',.inl p)∧p.a=begunA 0 []∧H'.dp.dead=false∧H'.dp.left = -1∧H'.dp.log=[]∧MachSt n l 0 480 H' (some p) (begunA 0 []) [(0,[])] [] false:=by
 obtain ⟨H',p,h1,h2,h3,h4,h5⟩:=WInv.begun n l i
 have b:=(Fine.new n l i).start (xR n l i)
 have d:gV (ia (nb n (roomN l))).1.dp:=gV.start (H:=nb n (roomN l)) ⟨rfl,rfl⟩
 rw [h1] at b d
 refine ⟨H',p,h1,h2,h3,d.1,h4,h5,b.mono (by omega),fun q hq => ?_,fun q f hq hd => ?_⟩
 ·cases hq
  rw [h2]
  exact AgA.Fit.begun 0 [] (by omega)
 ·cases hq
  rw [h2,(jK 0 []).2.2] at hd
  cases hd
end Go.Proofs.YtkkfmkhbdoeglaaGreatDoor
