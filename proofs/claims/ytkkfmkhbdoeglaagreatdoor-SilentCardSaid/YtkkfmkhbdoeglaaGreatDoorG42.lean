/- A part of what is proved here: lemmas and contracts of single functions. No condition but those that each names. -/
import Derived.Test.YtkkfmkhbdoeglaaGreatDoorG00
import Derived.Test.YtkkfmkhbdoeglaaGreatDoorG34
import Derived.Test.YtkkfmkhbdoeglaaGreatDoorG40
import Derived.Test.YtkkfmkhbdoeglaaGreatDoorG41
set_option maxHeartbeats 4000000
set_option maxRecDepth 100000
namespace Go.Proofs.YtkkfmkhbdoeglaaGreatDoor
open Go.RowKit Go.Shelf
def lU (k at' s:Nat):Value := .agg #[.int .i64 (k:Nat),.int .i64 (at':Nat),.int .i64 (s:Nat)]
def nK (w:World) (M:Nat→Prop) (X:Nat) (R:fx×(PAg⊕(Nat×Nat×Nat))) (e:Ending) (w':World):Prop:=match R with
 | (H',.inr (k,at',s))=>e = .returned (lU k at' s)∧iZ w M X H' none w'
 | (H',.inl p)=>e = .returned (lU 0 0 0)∧iZ w M X H' (some p) w'
theorem xj {n:Nat} {l:List Int} {H:fx} (d:oD n l H.seen) (i:H.dp.room=roomN l):∃ slot next v T,DiskInv decSB decDB foldS [] (H.seen.map parseSec) (placeOf n) slot v T next∧TabOk n (roomN l) v T∧gO H=match readAll H with
 | (H1,some f)=>(H1,.inr (12,0,f))
 | (H1,none)=>(H1.lY T,.inl ⟨begunA v T,0,⟨gm H.seen,slot,next⟩⟩):=by
 obtain ⟨g,v,T,b,h2,h3⟩:=d
 refine ⟨g.slot,g.next,v,T,h2,h3,?_⟩
 have j:g.stamp=gm H.seen:=by
  have:(zH H.seen).1.stamp=g.stamp:=by rw [b]
  rw [←this]
  rfl
 unfold gO
 generalize readAll H=q
 obtain ⟨H1,r⟩:=q
 cases r with
 | some f=>rfl
 | none =>
  simp only
  rw [b,i]
  simp only
  rw [h3.over,←j]
def p5 (w:World) (R:Nat) (x y z:Value):World:=((w.setCell ⟨R,0,none⟩ x).setCell ⟨R,1,none⟩ y).setCell ⟨R,2,none⟩ z
theorem oH {w:World} {R:Nat} {a b c:Value} {T:TypeId} {fz:Nat×Nat} (h:w.heap[R]?=some (.cells #[a,b,c] T fz)) (x y z:Value):(p5 w R x y z).heap[R]?=some (.cells #[x,y,z] T fz):=heap_setCell _ _ 2 _ (heap_setCell _ _ 1 _ (heap_setCell _ _ 0 _ h))
theorem mQ (w:World) (R:Nat) (x y z:Value):Ext (fun k=>k=R) w (p5 w R x y z):=(((Ext.refl (fun k=>k=R) w).setCell ⟨R,0,none⟩ _ (.inl rfl)).setCell ⟨R,1,none⟩ _ (.inl rfl)).setCell ⟨R,2,none⟩ _ (.inl rfl)
theorem vk {H:fx} {f:Nat} (b:32≤H.seen.length∧H.seen.length≤128) (h:(readAll H).2=some f):f≤100000:=by
 unfold readAll at h
 split at h
 ·cases h;omega
 ·cases h
theorem uI (n B X h:Nat) (l:List Int) (M F:Nat→Prop) (H:fx) (cv:Value) (w:World) (N:w.heap[X]?=some (.cells #[.pointer (some ⟨h,0,none⟩),cv] 91 (0,0))) (hX:M X) (hh:HostAt w F h H) (hF:∀ k,F k→M k∧k≠X) (q:Fine n l B H) (hB:B≤800000000) (ho:oD n l H.seen) (bn:ShapesVar w) (bo:ErrVar w) (br:∀ k,M k→2≤k) :
  Calls Tryz.prog 53 #[.pointer (some ⟨X,0,none⟩)] w (nK w M X (gO H)):=by
 obtain ⟨slot,next,v,T,bS,O,bs⟩:=xj ho q.dp.room
 rw [bs]
 have J:Below w.heap.size w (w.alloc (.cells #[.int .i64 0,.int .i64 0,.int .i64 0] 38)):=(Below.rf w).alloc (af _) _
 have R0:=fA w (.cells #[.int .i64 0,.int .i64 0,.int .i64 0] 38)
 have av:=fy J (fw N) N
 have bt:=fw N
 have bv:=hh.below J
 have bM:=bn.new J
 have bN:=bo.new J
 have cs:=hh.lt
 have ct:(w.alloc (.cells #[.int .i64 0,.int .i64 0,.int .i64 0] 38)).heap.size=w.heap.size+1:=ax _ _
 have bw:=ab J
 have r:=ab hF
 have am:=ab hh.lt
 have bx:=ab bN
 have R:=ab br
 clear bs J N hh bn bo br
 generalize bz:w.alloc (.cells #[.int .i64 0,.int .i64 0,.int .i64 0] 38)=u at *
 have c0:=ae _ _ 0 _ _ _ av
 have cp:=fw av
 have bD:=ab av
 have bH:=ab R0
 cases S:(readAll H).2 with
 | some f =>
  have aE:=ab (fun (W:World) (hW:Below u.heap.size u W)=>C1 h F H B W (bv.below hW) q.ok f S)
  have a0:Hid (readAll H=((readAll H).1,some f)):=ab (by rw [←S])
  rw [a0.out]
  have bX:f≤100000:=vk q.ok.n S
  go_enter Tryz.func53,Tryz.ntmps53
  go_upto_region 1 with fail
  clear bz
  go_region_held3 (fun w'=>w'.cell? ⟨X,0,none⟩=some (.pointer (some ⟨h,0,none⟩)))
   (first | exact c0 | exact (m.out.cell (p:=⟨X,0,none⟩) (fun e=>(r.out X e).2 rfl) c0))
   (first | (go_at_call 97;refine (aE.out _ (by first | exact (Below.rf u).drew | exact Below.rf u)).mono ?_;rintro e w1 ⟨b,c,rfl,a1,a2,bI,x⟩;have m:Hid (Ext F u w1):=ab (by first | exact (Ext.fD (Below.rf u).drew).trans x | exact x);clear x))
  have i:=m.out.at (fun e=>(r.out X e).2 rfl) bD.out
  have U:=m.out.at (fun e=>absurd (am.out _ e) (dw _)) bH.out
  have x1:=ae _ _ 1 _ _ _ i
  have z1:=aj _ _ 1 _ _ i
  have b0:=fw i
  have V:X≠w.heap.size:=ft bt
  have j:Ext (fun k=>k=X) w1 (w1.setCell ⟨X,1,none⟩ (.pointer none)):=(Ext.refl (fun k=>k=X) w1).setCell ⟨X,1,none⟩ _ (.inl rfl)
  have Y:(w1.setCell ⟨X,1,none⟩ (.pointer none)).heap[X]?=some (.cells #[.pointer (some ⟨h,0,none⟩),.pointer none] 91 (0,0)):=heap_setCell _ _ 1 (.pointer none) i
  have Z:=j.at (show ¬w.heap.size=X from fun e=>V e.symm) U
  have a3:=(bx.out.ext m.out fun k hk=>R.out k (r.out k hk).1).ext j fun k e=>e▸R.out X hX
  have C:Ext M w w1:=(Ext.fD bw.out).trans (m.out.mono fun k hk=>(r.out k hk).1)
  have D:Ext M w (w1.setCell ⟨X,1,none⟩ (.pointer none)):=C.setCell ⟨X,1,none⟩ _ (.inl hX)
  have b1:mg (w1.setCell ⟨X,1,none⟩ (.pointer none)) b c 12 0:=j.at (fun e=>ij a1 i (by decide) e) a1
  have b2:=j.at (fun e=>ij a2 i (by decide) e) a2
  have a4:=ab (show HostAt (w1.setCell ⟨X,1,none⟩ (.pointer none)) F h (readAll H).1 from bI.ext j fun k hk e=>(r.out k hk).2 e)
  clear a1 a2 bI
  have aa:=ab Y
  have G:=ab Z
  have b3:=ab j
  have ak:=ab D
  have b4:Hid (w.heap.size≤w1.heap.size):=ab C.size
  clear i U Y Z j C D
  go_wp2_with fail
  generalize w1.setCell ⟨X,1,none⟩ (.pointer none)=w2 at *
  refine (qb b c 12 0 f _ a3 b1 b2 bX (by omega) (by omega)).mono ?_
  rintro e w3 ⟨rfl,o⟩
  have ag:=fy o (fw aa.out) aa.out
  have d:=fy o (fw G.out) G.out
  have a5:=ab ag
  have a6:=ab d
  have al:=ab (ak.out.trans (Ext.fD o))
  have a7:=ab o
  have b5:=ae _ _ 0 _ _ _ d
  have b6:=ae _ _ 1 _ _ _ d
  have b7:=ae _ _ 2 _ _ _ d
  have b8:=aj _ _ 0 _ _ d
  have ca:=aj _ _ 1 _ _ d
  have cb:=aj _ _ 2 _ _ d
  have ce:=fw d
  clear ag d o
  go_wp2
  have I:=fG _ (.cells #[.int .i64 12,.int .i64 0,.int .i64 (f:Nat)] 38) (oH a6.out (.int .i64 12) (.int .i64 0) (.int .i64 (f:Nat)))
  have q0:=ae _ _ 0 _ _ _ I
  have q1:=ae _ _ 1 _ _ _ I
  have q2:=ae _ _ 2 _ _ _ I
  have s:Ext (fun k=>k=w.heap.size) w3 ((p5 w3 w.heap.size (.int .i64 12) (.int .i64 0) (.int .i64 (f:Nat))).alloc (.cells #[.int .i64 12,.int .i64 0,.int .i64 (f:Nat)] 38)):=(mQ w3 w.heap.size _ _ _).alloc _
  unfold p5 at q0 q1 q2 s
  refine aI (v:=lU 12 0 f) (by simp [results,Tryz.results53,go_sem,lU,q0,q1,q2]) rfl ?_
  refine ⟨rfl,M,⟨h,_,s.at V a5.out,hX,rfl,F,?_,r.out⟩,fun k => .inl,al.out.trans' s fun k e => .inr (by omega)⟩
  exact ((a4.out.below a7.out).ext s fun k hk e=>by have e':k=w.heap.size:=e;have:=am.out k hk;omega)
 | none =>
  have hk:∀ y:E,EntGood y→y.1.2.length≤fX∧y.2.length≤fX:=fun y hy=>by have:=hy.small;unfold fX;omega
  have aE:=ab (fun (W:World) (hW:Below u.heap.size u W)=>Bd h F H B W (bv.below hW) q.ok (bM.new hW) (fun k hk=>R.out k (r.out k hk).1) slot v next T (by rw [q.len];exact bS) S (by have:=O.v64;omega) (by have:=O.len;omega) (by have:=q.dp.there.len;omega) (by have:=q.dp.log;omega) (fun y hy=>(hk y (q.dp.there.mem y hy)).1) (fun y hy=>hk y (O.good y hy)) (by rw [q.dp.room];exact O.over))
  have a0:Hid (readAll H=((readAll H).1,none)):=ab (by rw [←S])
  rw [a0.out]
  go_enter Tryz.func53,Tryz.ntmps53
  go_upto_region 1 with fail
  clear bz
  go_region_held3 (fun w'=>w'.cell? ⟨X,0,none⟩=some (.pointer (some ⟨h,0,none⟩)))
   (first | exact c0 | exact (m.out.cell (p:=⟨X,0,none⟩) (fun e=>(r.out X e).2 rfl) c0))
   (first | (go_at_call 97;refine (aE.out _ (by first | exact (Below.rf u).drew | exact Below.rf u)).mono ?_;rintro e w1 ⟨a,rfl,-,M1,bd,bL,x⟩;have bi:Hid (∀ k,M1 k→F k∨u.heap.size≤k):=ab bL;clear bL;have m:Hid (Ext F u w1):=ab (by first | exact (Ext.fD (Below.rf u).drew).trans x | exact x);clear x))
  have i:=m.out.at (fun e=>(r.out X e).2 rfl) bD.out
  have U:=m.out.at (fun e=>absurd (am.out _ e) (dw _)) bH.out
  have x1:=ae _ _ 1 _ _ _ i
  have z1:=aj _ _ 1 _ _ i
  have b0:=fw i
  have V:X≠w.heap.size:=ft bt
  have j:Ext (fun k=>k=X) w1 (w1.setCell ⟨X,1,none⟩ (.pointer (some ⟨a,0,none⟩))):=(Ext.refl (fun k=>k=X) w1).setCell ⟨X,1,none⟩ _ (.inl rfl)
  have Y:(w1.setCell ⟨X,1,none⟩ (.pointer (some ⟨a,0,none⟩))).heap[X]?=some (.cells #[.pointer (some ⟨h,0,none⟩),.pointer (some ⟨a,0,none⟩)] 91 (0,0)):=heap_setCell _ _ 1 (.pointer (some ⟨a,0,none⟩)) i
  have Z:=j.at (show ¬w.heap.size=X from fun e=>V e.symm) U
  have a3:=(bx.out.ext m.out fun k hk=>R.out k (r.out k hk).1).ext j fun k e=>e▸R.out X hX
  have C:Ext M w w1:=(Ext.fD bw.out).trans (m.out.mono fun k hk=>(r.out k hk).1)
  have D:Ext M w (w1.setCell ⟨X,1,none⟩ (.pointer (some ⟨a,0,none⟩))):=C.setCell ⟨X,1,none⟩ _ (.inl hX)
  have a4:=ab (show Cx (w1.setCell ⟨X,1,none⟩ (.pointer (some ⟨a,0,none⟩))) M1 a h _ _ from bd.frame j fun k hk e=>by
   have e':k=X:=e
   rcases bi.out k hk with Q | Q
   ·exact (r.out k Q).2 e'
   ·omega)
  clear bd
  have aa:=ab Y
  have G:=ab Z
  have b3:=ab j
  have ak:=ab D
  have b4:Hid (w.heap.size≤w1.heap.size):=ab C.size
  clear i U Y Z j C D
  go_wp2_with fail
  generalize w1.setCell ⟨X,1,none⟩ (.pointer (some ⟨a,0,none⟩))=w2 at *
  refine (pU _).mono ?_
  rintro e w3 ⟨rfl,o⟩
  have ag:=fy o (fw aa.out) aa.out
  have d:=fy o (fw G.out) G.out
  have a5:=ab ag
  have a6:=ab d
  have al:=ab (ak.out.trans (Ext.fD o))
  have a7:=ab o
  have b5:=ae _ _ 0 _ _ _ d
  have b6:=ae _ _ 1 _ _ _ d
  have b7:=ae _ _ 2 _ _ _ d
  have b8:=aj _ _ 0 _ _ d
  have ca:=aj _ _ 1 _ _ d
  have cb:=aj _ _ 2 _ _ d
  have ce:=fw d
  clear ag d o
  go_wp2
  have I:=fG _ (.cells #[.int .i64 0,.int .i64 0,.int .i64 0] 38) (oH a6.out (.int .i64 0) (.int .i64 0) (.int .i64 0))
  have q0:=ae _ _ 0 _ _ _ I
  have q1:=ae _ _ 1 _ _ _ I
  have q2:=ae _ _ 2 _ _ _ I
  have s:Ext (fun k=>k=w.heap.size) w3 ((p5 w3 w.heap.size (.int .i64 0) (.int .i64 0) (.int .i64 0)).alloc (.cells #[.int .i64 0,.int .i64 0,.int .i64 0] 38)):=(mQ w3 w.heap.size _ _ _).alloc _
  unfold p5 at q0 q1 q2 s
  refine aI (v:=lU 0 0 0) (by simp [results,Tryz.results53,go_sem,lU,q0,q1,q2]) rfl ?_
  refine ⟨rfl,fun k=>M k∨w.heap.size≤k,⟨h,_,s.at V a5.out,.inl hX,a,M1,rfl,?_,fun k hk => ?_⟩,fun k hk=>hk,al.out.trans' s fun k e => .inr (by omega)⟩
  ·refine (a4.out.below a7.out).frame s fun k hk e => ?_
   have e':k=w.heap.size:=e
   rcases bi.out k hk with Q | Q
   ·have:=am.out k Q;omega
   ·omega
  ·rcases bi.out k hk with Q | Q
   ·exact ⟨.inl (r.out k Q).1,(r.out k Q).2⟩
   ·exact ⟨.inr (by omega),by omega⟩
end Go.Proofs.YtkkfmkhbdoeglaaGreatDoor
namespace Go.Proofs.YtkkfmkhbdoeglaaGreatDoor
open Go.RowKit Go.Shelf
theorem DX (d:Int) (l:List Int) (rv:Value) (w:World) (hr:fH w rv 1 l.length (l.map fun i => .int .i64 i)) (n:Nat) (hn:(n:Int)=min (max d 32) 128) (q:ShapesVar w) (D:ErrVar w) (H':fx) (p:PAg) (E:gO (mc n (roomN l))=(H',.inl p)) :
  Calls Tryz.prog 40 #[.int .i64 d,rv] w fun e w'=>∃ X M,e = .returned (.tuple #[.pointer (some ⟨X,0,none⟩),lU 0 0 0])∧HostX w' M X H' (some p)∧(∀ k,M k→w.heap.size≤k)∧Below w.heap.size w w':=by
 have j:Below w.heap.size w (w.alloc (.cells #[.int .i64 0,.int .i64 0,.int .i64 0] 38)):=(Below.rf w).alloc (af _) _
 have R0:=fA w (.cells #[.int .i64 0,.int .i64 0,.int .i64 0] 38)
 have F:(w.alloc (.cells #[.int .i64 0,.int .i64 0,.int .i64 0] 38)).heap.size=w.heap.size+1:=ax _ _
 have r:=q.new j
 have s:=D.new j
 have G:=ab (y6 d l rv _ (hr.below j) n hn)
 have I:32≤n∧n≤128:=by omega
 have ap:=ab E
 have h2:=q.two
 have av:=ab j
 have J:=ab R0
 have aE:=ab F
 have a0:=ab r
 have a1:=ab s
 clear hr hn q D E j R0 F r s
 go_enter Tryz.func40,Tryz.ntmps40
 go_wp2_with fail
 refine G.out.mono ?_
 rintro e w1 ⟨h,rfl,N,m⟩
 generalize w.alloc (.cells #[.int .i64 0,.int .i64 0,.int .i64 0] 38)=u at *
 have o:Below w1.heap.size w1 (w1.alloc (.cells #[.pointer (some ⟨h,0,none⟩),.pointer none] 91)):=(Below.rf w1).alloc (af _) _
 have X2:=fA w1 (.cells #[.pointer (some ⟨h,0,none⟩),.pointer none] 91)
 have O:(w1.alloc (.cells #[.pointer (some ⟨h,0,none⟩),.pointer none] 91)).heap.size=w1.heap.size+1:=ax _ _
 have Q:=m.size
 have bc:=aE.out
 have a3:=ab (uI n 0 w1.heap.size h l (fun k=>u.heap.size≤k∧k<w1.heap.size+1) (fun k=>u.heap.size≤k∧k<w1.heap.size) (mc n (roomN l)) (.pointer none) _ X2 ⟨Q,by omega⟩ (N.below o) (fun k hk=>⟨⟨hk.1,by omega⟩,by omega⟩) (Fine.new n l I) (by omega) (wB n l I) ((a0.out.new m).new o) ((a1.out.new m).new o) (fun k hk=>by omega))
 have R:=ab m
 have x:=ab o
 clear N m o X2 G O
 go_wp2_with fail
 refine a3.out.mono ?_
 rintro e w3 S
 rw [ap.out] at S
 obtain ⟨rfl,M',U,V,W⟩:=S
 have a4:Ext (fun _=>False) u w1:=Ext.fD R.out
 have y:Below u.heap.size u w3:=(R.out.trans (x.out.mono Q)).trans (W.below (by have:=x.out.size;omega) fun k hk e=>by omega)
 have b:=fy y (fw J.out) J.out
 have a5:=ab b
 have a6:=ab U
 have Y:=ab V
 have Z:=ab y
 have a7:=ab (x.out.size)
 have bk:=ae _ _ 0 _ _ _ b
 have bl:=ae _ _ 1 _ _ _ b
 have bn:=ae _ _ 2 _ _ _ b
 have bo:=aj _ _ 0 _ _ b
 have br:=aj _ _ 1 _ _ b
 have bs:=aj _ _ 2 _ _ b
 have bt:=fw b
 clear U V W y b a4
 unfold lU
 go_wp2
 have B:=oH a5.out (.int .i64 0) (.int .i64 0) (.int .i64 0)
 have q0:=ae _ _ 0 _ _ _ B
 have q1:=ae _ _ 1 _ _ _ B
 have q2:=ae _ _ 2 _ _ _ B
 have C:Ext (fun k=>k=w.heap.size) w3 (p5 w3 w.heap.size (.int .i64 0) (.int .i64 0) (.int .i64 0)):=mQ w3 w.heap.size _ _ _
 unfold p5 at q0 q1 q2 C
 refine aI (v := .tuple #[.pointer (some ⟨w1.heap.size,0,none⟩),.agg #[.int .i64 0,.int .i64 0,.int .i64 0]]) (by simp [results,Tryz.results40,go_sem,q0,q1,q2]) rfl ?_
 have O:=a7.out
 refine ⟨w1.heap.size,M',rfl,a6.out.frame C fun k hk e => ?_,fun k hk => ?_,?_⟩
 ·have e':k=w.heap.size:=e
  rcases Y.out k hk with h' | h'
  ·omega
  ·omega
 ·rcases Y.out k hk with h' | h'
  ·omega
  ·omega
 ·exact (av.out.trans (Z.out.mono (by omega))).trans (C.below (by have:=Z.out.size;omega) fun k hk e=>by have e':k=w.heap.size:=e;omega)
theorem xf (n B X:Nat) (l:List Int) (M:Nat→Prop) (H:fx) (p:PAg) (frame:List UInt8) (w:World) (hh:HostX w M X H (some p)) (hr:za n l B H p) (hl:frame.length≤1000000) (U:ShapesVar w) (V:ErrVar w) (W:∀ k,M k→2≤k) :
  Calls Tryz.prog 12 #[.pointer (some ⟨X,0,none⟩),.string ⟨frame.toArray⟩] w fun e w'=>e = .returned (.tuple #[])∧iZ w M X (iO H p frame).1 (some (iO H p frame).2) w':=by
 obtain ⟨h,a,M',m,hX,⟨F,G,O,x,hm,Y⟩,Z⟩:=hh.E5
 have bD:(1000000:Nat)≤fX:=by decide
 have a4:=fw m
 have S:=ab hm
 have HR:=ab hr
 have a5:=ab m
 have o:=ab Y
 have q:=ab Z
 have a6:=ab U
 have a7:=ab V
 have a9:=ab W
 obtain ⟨R,hR⟩:∃ R,R=iO H p frame:=⟨_,rfl⟩
 have ba:=ab hR
 rw [←hR]
 clear hh hm hr m Y Z U V W hR
 go_enter Tryz.func12,Tryz.ntmps12
 go_wp2_with (first | (refine kq rfl (.tmp 6) rfl frame rfl (by omega) ?_;intro cap w1 r D bH;have r1:=fy D a4 a5.out;have c1:=ae _ _ 1 _ _ _ r1;have bb:=fw r1;have bc:=ab r1;have aa:=ab r;have s:=ab D;clear r1 r D) | fail)
 have bd:Hid (∀ k,F k∨G k∨O k→k<w.heap.size):=ab fun k hk=>hk.elim (S.out.host.lt k) fun hk=>hk.elim (S.out.ag.glt k) (S.out.ag.olt k)
 have b:=HR.out
 refine (xy n B a h l F G O (fun k=>F k∨G k∨O k) H p x (.slice (some ⟨w.heap.size,0,none⟩) frame.length cap) frame w1 (S.out.below s.out) (fun k hk=>hk) b.up b.fit (by have:=b.fine.ok.n;rw [b.fine.len] at this;exact this) b.fine.ok b.low b.stamp (by have:=b.fine.dp.log;have:=b.low;omega) aa.out.bytes (by omega) (a6.out.new s.out) (a7.out.new s.out) (fun k hk=>a9.out k (q.out k (o.out k hk)).1)).mono ?_
 rintro e w2 ⟨rfl,E⟩
 rw [←ba.out] at E
 have bi:=jM.FQ (M:=fun k=>(F k∨G k∨O k)∨k=X) bc.out (.inr rfl) (fun k hk=>⟨.inl hk,(q.out k (o.out k hk)).2⟩) E
 obtain ⟨M3,ak,I,j⟩:=bi
 have al:¬((F w.heap.size∨G w.heap.size∨O w.heap.size)∨w.heap.size=X):=fun e=>e.elim (fun e=>dw _ (bd.out _ e)) fun e=>by omega
 have am:=aa.out.frame j.size fun k e hk=>j.block k hk (by cases e;exact al)
 have J:∀ k,M3 k→k≠w.heap.size:=fun k hk e=>by
  rcases I k hk with d | d
  ·exact al (e▸d)
  ·omega
 have N:∀ k,M3 k→M k∨w.heap.size≤k:=fun k hk=>by
  rcases I k hk with d | d
  ·exact .inl (d.elim (fun d=>(q.out k (o.out k d)).1) fun e=>e▸hX)
  ·exact .inr (by omega)
 have bk:=ab (show Ext M w w2 from (Ext.fD s.out).trans (j.mono fun k d=>d.elim (fun d=>(q.out k (o.out k d)).1) fun e=>e▸hX))
 have bl:=ab ak
 have bn:=ab N
 have a0:=ab J
 have u:∀ i,i<frame.length→(w2.cell? ⟨w.heap.size,i,none⟩).isSome=true∧w2.frozen? ⟨w.heap.size,i,none⟩=false:=by
  obtain ⟨-,Q | ⟨g,off,bv,he,_,_,hn,_,_,hf⟩⟩:=am
  ·cases Q.1
  ·cases he
   intro i hi
   have:=hf i (by omega)
   rw [bE] at this
   exact this
 have bx:=j.size
 have h0:nL w2 w.heap.size frame.length (.int .i64 0) w2:=⟨0,aK _,rfl,u,by omega,Ext.refl _ _⟩
 clear u E ak I j am J N c1 bb
 go_wp2
 go_loopw [16] (fun i wr=>nL w2 w.heap.size frame.length i wr) (fun i _=>frame.length-(intOf i).toNat)
 case atStart=>exact h0
 case round =>
  clear h0
  obtain ⟨k,hk,rfl,y,br,Q⟩:=hrel
  by_cases ap:k<frame.length
  ·have bz:(k:Int)<frame.length:=by omega
   obtain ⟨C,hz⟩:=y k ap
   obtain ⟨ov,bI⟩:=cy.1 C
   have bs:=ab y
   clear y C
   go_wp2
   exact ⟨nL.step ap bs.out br Q,by simp [intOf];omega⟩
  ·obtain rfl:k=frame.length:=by omega
   have bL:¬(frame.length:Int)<frame.length:=by omega
   clear y
   go_wp2
   go_end0
   exact ⟨rfl,M3,bl.out.frame Q a0.out,bn.out,bk.out.trans' Q fun k e => .inr (by have e':k=w.heap.size:=e;omega)⟩
def uG (w1:World) (g off n:Nat) (i:Value) (wr:World):Prop :=
 ∃ k:Nat,k≤n∧i = .int .i64 k∧(∀ i,i<n→(wr.cell? ⟨g,off+i,none⟩).isSome=true∧wr.frozen? ⟨g,off+i,none⟩=false)∧g<wr.heap.size∧Ext (fun b=>b=g) w1 wr
theorem uG.step {w1 wr:World} {g off n k:Nat} {v:Value} (hk:k<n) (h1:∀ i,i<n→(wr.cell? ⟨g,off+i,none⟩).isSome=true∧wr.frozen? ⟨g,off+i,none⟩=false) (h3:g<wr.heap.size) (h4:Ext (fun b=>b=g) w1 wr) :
  uG w1 g off n (.int .i64 ((k+1:Nat):Int)) (wr.setCell ⟨g,off+k,none⟩ v):=by
 refine ⟨k+1,hk,rfl,fun i j => ?_,by rw [size_setCell];exact h3,h4.setCell _ _ (.inl rfl)⟩
 obtain ⟨hs,l⟩:=h1 i j
 refine ⟨?_,by rw [eB];exact l⟩
 by_cases d:i=k
 ·subst d
  obtain ⟨x,m⟩:=cy.1 hs
  rw [World.cell?_setCell_same (h:=m)]
  rfl
 ·rw [cF (h:=by simp <;> omega)]
  exact hs
def tG (r:Option (List UInt8)):Value := .tuple #[.string ⟨(r.getD []).toArray⟩,.bool r.isSome]
theorem CW (M:Nat→Prop) (X:Nat) (H:fx) (p:PAg) (w:World) (S:HostX w M X H (some p)) (hf:p.a.Fit) :
  Calls Tryz.prog 18 #[.pointer (some ⟨X,0,none⟩)] w fun e w'=>e = .returned (tG p.a.next.2)∧iZ w M X H (some {p with a:=p.a.next.1}) w':=by
 obtain ⟨h,a,M',o,hX,⟨F,G,O,x,hm,W⟩,Y⟩:=S.E5
 have l:=hm.ag.row
 unfold AV.cells at l
 have c4:=ae _ _ 4 _ _ _ l
 have c1:=ae _ _ 1 _ _ _ o
 have bk:=fw o
 have bl:=fw l
 have d:=hm.ag.out
 cases C:p.a.out with
 | nil =>
  rw [C] at d
  have J:=ab (uH a x.c O [] w c4 d)
  have HN:Hid (p.a.next=(p.a,none)):=ab (by unfold AgA.next;rw [C])
  have HH:=ab S
  clear S hm o l d C c4
  go_enter Tryz.func18,Tryz.ntmps18
  go_wp2_with fail
  refine J.out.mono ?_
  rintro e w1 ⟨rfl,rfl⟩
  go_wp2_with (refine gx rfl (.tmp 16) rfl [] (by exact BytesAt.nil _ _ _) ?_)
  refine wp_loop_rounds 1 ?_
  rw [rounds_succ]
  go_wp2
  go_ret2
  rw [HN.out]
  exact ⟨rfl,HH.out.go⟩
 | cons b out =>
  rw [C] at d
  have J:=ab (uH a x.c O (b::out) w c4 d)
  have HN:Hid (p.a.next=({p.a with out:=out},some b)):=ab (by unfold AgA.next;rw [C])
  have bn:b.length≤13:=hf.olen b (by rw [C];simp)
  have s:=ab hm
  have av:=ab o
  have y:=ab W
  have B:=ab Y
  clear S hm o l d C c4 W Y
  go_enter Tryz.func18,Tryz.ntmps18
  go_wp2_with fail
  refine J.out.mono ?_
  rintro e w1 ⟨u,rfl,q,d,r⟩
  obtain ⟨N,bc,Z⟩:=q
  have aa:=N.bytes
  obtain ⟨-,bo | ⟨g,off,cap,rfl,-,Q,br,-,U,D⟩⟩:=N
  ·omega
  have E:=Z g rfl
  have ak:=s.out.ag.outs (O':=fun j=>O j∧(Value.slice (some ⟨g,off,none⟩) b.length cap).ownBlock≠some j) d r (fun k hk=>ay (s.out.ag.olt k hk.1) r.size) (fun k hk => .inl hk.1)
  have R:=s.out.ag.gin.2.2.2
  have al:gI w1 F G (fun j=>O j∧(Value.slice (some ⟨g,off,none⟩) b.length cap).ownBlock≠some j) a h H {p with a := {p.a with out:=out}} x:=⟨s.out.host.ext r fun k hk e=>s.out.fg k hk (e▸R),ak,s.out.fg,fun k hk e=>s.out.fo k hk e.1⟩
  have aE:=ab al
  have a0:=ab r
  have a1:=ab aa
  have a2:X≠x.c:=fun e=>(B.out x.c (y.out _ (.inr (.inl R)))).2 e.symm
  have a3:X≠g:=fun e=>(B.out g (y.out _ (.inr (.inr E)))).2 e.symm
  have a4:=ab (r.at a2 av.out)
  have h0:uG w1 g off b.length (.int .i64 0) w1:=⟨0,aK _,rfl,fun i hi=>D i (by omega),Q,Ext.refl _ _⟩
  clear d r al ak aa Z c1 U D
  go_wp2_with (refine gx rfl (.tmp 16) rfl b (by exact a1.out) ?_)
  go_loopw [20] (fun i wr=>uG w1 g off b.length i wr) (fun i _=>b.length-(intOf i).toNat)
  case atStart=>exact h0
  case round =>
   clear h0
   obtain ⟨k,hk,rfl,q,Q,V⟩:=hrel
   by_cases am:k<b.length
   ·have bd:(k:Int)<b.length:=by omega
    obtain ⟨I,hz⟩:=q k am
    obtain ⟨ov,bs⟩:=cy.1 I
    have a6:=ab q
    clear q I
    go_wp2
    exact ⟨uG.step am a6.out Q V,by simp [intOf];omega⟩
   ·obtain rfl:k=b.length:=by omega
    have bt:¬(b.length:Int)<b.length:=by omega
    clear q
    go_wp2
    go_ret2
    rw [HN.out]
    refine ⟨rfl,M,⟨h,_,V.at a3 a4.out,hX,a,M',rfl,⟨F,G,_,x,aE.out.frame V fun j m e => ?_,fun j m=>y.out j (m.imp id fun m=>m.imp id fun m=>m.1)⟩,B.out⟩,fun j => .inl,?_⟩
    ·have e':j=g:=e
     subst e'
     rcases m with m | m | m
     ·exact s.out.fo j m E
     ·exact s.out.ag.sep j m E
     ·exact m.2 rfl
    ·exact (a0.out.mono fun j e=>(B.out j (y.out j (.inr (.inl (e▸R))))).1).trans (V.mono fun j e=>(B.out j (y.out j (.inr (.inr (e▸E))))).1)
def mS (p:PAg):Nat×Nat×Nat:=match p.a.deg with
 | none=>(0,0,0)
 | some f=>(f.1,f.2,if f.1=12 then p.sec else 0)
theorem vg (M:Nat→Prop) (X:Nat) (H:fx) (p:PAg) (w:World) (hh:HostX w M X H (some p)) (hd:∀ f,p.a.deg=some f→1≤f.1∧f.1≤14∧p.sec≤100000) (S:ErrVar w) :
  Calls Tryz.prog 13 #[.pointer (some ⟨X,0,none⟩)] w fun e w'=>e = .returned (lU (mS p).1 (mS p).2.1 (mS p).2.2)∧Below w.heap.size w w':=by
 obtain ⟨h,a,M',D,-,⟨F,G,O,x,hm,-⟩,-⟩:=hh.E5
 have r:Below w.heap.size w (w.alloc (.cells #[.int .i64 0,.int .i64 0,.int .i64 0] 38)):=(Below.rf w).alloc (af _) _
 have E:=ab (fA w (.cells #[.int .i64 0,.int .i64 0,.int .i64 0] 38))
 have J:=fy r (fw D) D
 have c1:=ae _ _ 1 _ _ _ J
 have a0:=fw J
 have U:=ab (tj a h p x G O _ (hm.ag.below r))
 have V:=ab (S.new r)
 have N:=ab r
 have HD:=ab hd
 clear hh hm D r J S hd
 go_enter Tryz.func13,Tryz.ntmps13
 go_wp2_with fail
 refine U.out.mono ?_
 rintro e w1 ⟨W,I⟩
 generalize w.alloc (.cells #[.int .i64 0,.int .i64 0,.int .i64 0] 38)=w0 at *
 have m:=ab W
 clear W c1 a0 U
 cases i:p.a.deg with
 | none =>
  rw [i] at I
  obtain rfl:e = .returned .nilIface:=I
  have Q:Hid (mS p=(0,0,0)):=ab (by unfold mS;rw [i])
  clear i
  go_wp2_with fail
  refine (pU _).mono ?_
  rintro e w3 ⟨rfl,j⟩
  have d:=fy (m.out.tn j) (fw E.out) E.out
  have s:=ab d
  have o:=ab (N.out.tn (m.out.tn j))
  have Y:=ae _ _ 0 _ _ _ d
  have Z:=ae _ _ 1 _ _ _ d
  have aa:=ae _ _ 2 _ _ _ d
  have ak:=aj _ _ 0 _ _ d
  have al:=aj _ _ 1 _ _ d
  have am:=aj _ _ 2 _ _ d
  have ap:=fw d
  clear j d
  go_wp2
  have l:=oH s.out (.int .i64 (0)) (.int .i64 (0)) (.int .i64 (0))
  have u:=ae _ _ 0 _ _ _ l
  have y:=ae _ _ 1 _ _ _ l
  have B:=ae _ _ 2 _ _ _ l
  have q:Ext (fun k=>k=w.heap.size) w3 (p5 w3 w.heap.size (.int .i64 (0)) (.int .i64 (0)) (.int .i64 (0))):=mQ w3 w.heap.size _ _ _
  unfold p5 at u y B q
  refine aI (v := .agg #[.int .i64 (0),.int .i64 (0),.int .i64 (0)]) (by simp [results,Tryz.results13,go_sem,u,y,B]) rfl ?_
  refine ⟨?_,o.out.trans (q.below o.out.size fun k hk e=>by have e':k=w.heap.size:=e;omega)⟩
  rw [Q.out]
  rfl
 | some f =>
  rw [i] at I
  obtain ⟨ev,rfl,b,rfl,I⟩:=I
  obtain ⟨k1,k2,k3⟩:=HD.out f i
  rcases I with ⟨C,R⟩ | ⟨C,c,R,hc⟩
  ·have Q:Hid (mS p=(f.1,f.2,0)):=ab (by unfold mS;rw [i];simp only;rw [au C])
   have HP:=ab (nh b (f.1:Nat) (f.2:Nat) w1 (V.out.new m.out) R (by omega) (by omega))
   clear i R C
   go_wp2_with fail
   refine HP.out.mono ?_
   rintro e w3 ⟨rfl,j⟩
   have d:=fy (m.out.tn j) (fw E.out) E.out
   have s:=ab d
   have o:=ab (N.out.tn (m.out.tn j))
   have Y:=ae _ _ 0 _ _ _ d
   have Z:=ae _ _ 1 _ _ _ d
   have aa:=ae _ _ 2 _ _ _ d
   have ak:=aj _ _ 0 _ _ d
   have al:=aj _ _ 1 _ _ d
   have am:=aj _ _ 2 _ _ d
   have ap:=fw d
   clear j d
   go_wp2
   have l:=oH s.out (.int .i64 (((f.1:Nat):Int))) (.int .i64 (((f.2:Nat):Int))) (.int .i64 (0))
   have u:=ae _ _ 0 _ _ _ l
   have y:=ae _ _ 1 _ _ _ l
   have B:=ae _ _ 2 _ _ _ l
   have q:Ext (fun k=>k=w.heap.size) w3 (p5 w3 w.heap.size (.int .i64 (((f.1:Nat):Int))) (.int .i64 (((f.2:Nat):Int))) (.int .i64 (0))):=mQ w3 w.heap.size _ _ _
   unfold p5 at u y B q
   refine aI (v := .agg #[.int .i64 (((f.1:Nat):Int)),.int .i64 (((f.2:Nat):Int)),.int .i64 (0)]) (by simp [results,Tryz.results13,go_sem,u,y,B]) rfl ?_
   refine ⟨?_,o.out.trans (q.below o.out.size fun k hk e=>by have e':k=w.heap.size:=e;omega)⟩
   rw [Q.out]
   rfl
  ·have Q:Hid (mS p=(f.1,f.2,p.sec)):=ab (by unfold mS;rw [i];simp only;rw [aB C])
   have HP:=ab (qb b c (f.1:Nat) (f.2:Nat) p.sec w1 (V.out.new m.out) R hc k3 (by omega) (by omega))
   clear i R hc C
   go_wp2_with fail
   refine HP.out.mono ?_
   rintro e w3 ⟨rfl,j⟩
   have d:=fy (m.out.tn j) (fw E.out) E.out
   have s:=ab d
   have o:=ab (N.out.tn (m.out.tn j))
   have Y:=ae _ _ 0 _ _ _ d
   have Z:=ae _ _ 1 _ _ _ d
   have aa:=ae _ _ 2 _ _ _ d
   have ak:=aj _ _ 0 _ _ d
   have al:=aj _ _ 1 _ _ d
   have am:=aj _ _ 2 _ _ d
   have ap:=fw d
   clear j d
   go_wp2
   have l:=oH s.out (.int .i64 (((f.1:Nat):Int))) (.int .i64 (((f.2:Nat):Int))) (.int .i64 (((p.sec:Nat):Int)))
   have u:=ae _ _ 0 _ _ _ l
   have y:=ae _ _ 1 _ _ _ l
   have B:=ae _ _ 2 _ _ _ l
   have q:Ext (fun k=>k=w.heap.size) w3 (p5 w3 w.heap.size (.int .i64 (((f.1:Nat):Int))) (.int .i64 (((f.2:Nat):Int))) (.int .i64 (((p.sec:Nat):Int)))):=mQ w3 w.heap.size _ _ _
   unfold p5 at u y B q
   refine aI (v := .agg #[.int .i64 (((f.1:Nat):Int)),.int .i64 (((f.2:Nat):Int)),.int .i64 (((p.sec:Nat):Int))]) (by simp [results,Tryz.results13,go_sem,u,y,B]) rfl ?_
   refine ⟨?_,o.out.trans (q.below o.out.size fun k hk e=>by have e':k=w.heap.size:=e;omega)⟩
   rw [Q.out]
   rfl
end Go.Proofs.YtkkfmkhbdoeglaaGreatDoor
