/- A part of what is proved here: lemmas and contracts of single functions. No condition but those that each names. -/
import Derived.Test.YtkkfmkhbdoeglabGreatDoorG00
import Derived.Test.YtkkfmkhbdoeglabGreatDoorG15
import Derived.Test.YtkkfmkhbdoeglabGreatDoorG25
set_option maxHeartbeats 4000000
set_option maxRecDepth 100000
namespace Go.Proofs.YtkkfmkhbdoeglabGreatDoor
open Go.RowKit Go.Shelf
theorem vV:∀ (S:List E),(jE S).length=sizeS S
 | []=>rfl
 | x::S=>by
  have e:jE (x::S)=jK x++jE S:=rfl
  have b:sizeS (x::S)=1+x.1.2.length+x.2.length+sizeS S:=rfl
  rw [e,b,aq,vV S]
  unfold jK
  simp
  omega
theorem mn (v:Nat) (S:List E):(gX v S).length=10+sizeS S:=by
 unfold gX
 rw [aq,aq,gm,vV]
 rfl
theorem iy.gD {w w1 w':World} {F S:Nat→Prop} {h:Nat} {H:fP} (b:Below w.heap.size w w1) (d:iy w1 F S h H w'):iy w F S h H w':=by
 obtain ⟨F',h1,h2,h3⟩:=d
 exact ⟨F',h1,fun k hk=>(h2 k hk).imp id (fun e=>aH b.size e),(Ext.fT b).trans h3⟩
theorem iy.zA {w w':World} {F S:Nat→Prop} {h lg:Nat} {H:fP} (b:iy w F S h H w') (d:S lg) (hF:¬F lg) (l:lg<w.heap.size) (i:Nat) (v:Value):iy w F S h H (w'.setCell ⟨lg,i,none⟩ v):=by
 obtain ⟨F',h1,h2,h3⟩:=b
 refine ⟨F',h1.frame (by rw [size_setCell];exact af _) fun k hk=>Below.heap_setCell w' ⟨lg,i,none⟩ v k fun e => ?_,h2,h3.setCell _ _ (.inl (.inr d))⟩
 have j:k=lg:=e
 rcases h2 k hk with h | h
 ·exact hF (j▸h)
 ·omega
theorem uq (lg h:Nat) (F:Nat→Prop) (H:fP) (g:LogS) (B q off r v:Nat) (T:List E) (w:World) (hl:LogAt w lg h g) (I:HostAt w F h H) (y:HostOk H B) (hB:B≤900000000) (J:¬F lg) (he:EntAt w q off r T)
  (bw:g.slot<2) (bx:sizeS T≤16*(H.seen.length-8)) (hT:T.length<65536) (hv:v<18446744073709551616) (a1:∀ x∈T,0≤x.1.1∧x.1.1<256∧x.1.2.length≤100∧x.2.length≤100) (a2:g.stamp<9000000000000000000) :
  Calls Tryz.prog 190 #[.pointer (some ⟨lg,0,none⟩),.int .u64 (v:Nat),.pointer (some ⟨q,off,none⟩)] w fun e w'=>∃ r,e = .returned r∧xU w w' r (gd H g v T).2.2∧LogAt w' lg h (gd H g v T).2.1∧iy w F (fun k=>k=lg) h (gd H g v T).1 w'∧HostOk (gd H g v T).1 (B+128):=by
 have X:=y.n
 have Z:=jq X.1 X.2
 have a3:partsOf (gX v T).length≤placeOf H.seen.length:=mR (by rw [mn];omega)
 obtain ⟨pl,M⟩:∃ pl,pl=placeOf H.seen.length:=⟨_,rfl⟩
 have aa:(1-g.slot)*placeOf H.seen.length+partsOf (gX v T).length≤H.seen.length:=by
  rcases (show g.slot=0∨g.slot=1 by omega) with e | e <;> rw [e] <;> omega
 have ag:=fun (dv:Value) (W:World) (Y:Below w.heap.size w W) (a4:BytesAt W dv (gX v T)) (a5:∀ k,dv.ownBlock=some k→¬F k∧k≠lg)=>ab (pB lg h F H g ((1-g.slot)*placeOf H.seen.length) B dv (gX v T) W (fQ Y (fO hl) hl) (I.below Y) y hB J a4 a5 aa a2)
 have a6:=ab (oy h F H w I)
 have bz:=nu h
 have bD:=lz h
 have ak:=fun (W:World) (Y:Below w.heap.size w W)=>ab (GV q off r v T W (he.below Y) hT hv a1)
 have HH:=ab I
 have HL:=ab hl
 have a7:=ab I.lt
 have bH:=ab y
 have i:=hl
 unfold LogAt at i
 have c0:w.cell? ⟨lg,0,none⟩=some (.iface 217 (.agg #[.pointer (some ⟨h,0,none⟩)])):=ae _ _ 0 _ _ _ i
 have c2:w.cell? ⟨lg,2,none⟩=some (.int .i64 (g.slot:Int)):=ae _ _ 2 _ _ _ i
 have N:=fO i
 have a9:=ab Z
 have al:=ab M
 have l:(1:Int)-(g.slot:Int)=((1-g.slot:Nat):Int):=by omega
 have ba:=ab l
 obtain ⟨A,hA⟩:∃ A,A=(1-g.slot)*placeOf H.seen.length:=⟨_,rfl⟩
 have am:wrap64 ((1-(g.slot:Int))*(pl:Int))=(A:Int):=by
  rw [l,←Int.natCast_mul,hA,←M]
  have hm:(1-g.slot)*pl≤1*pl:=cR _ (by omega)
  generalize (1-g.slot)*pl=m at hm⊢
  exact IntWalk.wrap64_in (m:Int) (by omega)
 have HA:=ab hA
 have bc:=ab am
 clear hA am
 have bn:pl≤37:=by omega
 clear hl i I y a3 aa M l Z
 go_enter Tryz.func190,Tryz.ntmps190
 go_wp2_with fail
 refine a6.out.mono ?_
 rintro e w1 ⟨rfl,O⟩
 have D:=ab O
 have d2:=(O.cell (p:=⟨lg,2,none⟩) N).trans c2
 clear c0 c2 O
 go_wp2_with fail
 refine (yx H.seen.length w1 X.1 X.2).mono ?_
 rintro e be ⟨rfl,rfl⟩
 rw [←al.out]
 go_wp2_with fail
 refine (ak be D.out).out.mono ?_
 rintro e w2 ⟨bv,rfl,d,ap⟩
 rw [bc.out]
 have o:=D.out.trans (ap.mono D.out.size)
 have R:=ag bv w2 o d.bytes (fun k e=>by
  have h1:=d.gh k e
  have h2:=D.out.size
  exact ⟨fun hF=>by have:=a7.out k hF;omega,by omega⟩)
 have s:=ab o
 obtain ⟨bI,bL,rfl⟩:=d.shape
 clear ag ak o d ap
 go_wp2_with fail
 rw [←HA.out] at R
 refine R.out.mono ?_
 rintro e w3 ⟨rv,rfl,j,b,S,u⟩
 have G:Hid (gd H g v T=CO g H.seen.length (fV H g A (gX v T))):=ab (by unfold gd;rw [HA.out])
 have bM:partsOf (gX v T).length≤128:=by
  have:=a9.out
  have h2:partsOf (gX v T).length≤placeOf H.seen.length:=mR (by rw [mn];omega)
  omega
 obtain ⟨Q,hQ⟩:∃ Q,Q=fV H g A (gX v T):=⟨_,rfl⟩
 rw [←hQ] at j S u G
 obtain ⟨H1,rf⟩:=Q
 have av:=ab b
 have U:=ab S
 have V:=ab (u.mono (C:=B+128) (by omega))
 clear S u hQ R
 simp only at j U V G
 cases rf with
 | some f =>
  have bl:=ab (show kL w2 w3 rv f from j)
  obtain ⟨eb,rfl,-,-⟩:=j
  clear b
  go_wp2
  go_ret
  refine ⟨_,rfl,?_⟩
  rw [G.out]
  exact ⟨bl.out.mono s.out.size,av.out,iy.gD s.out U.out,V.out⟩
 | none =>
  obtain rfl:rv = .nilIface:=j
  unfold LogAt at b
  have c2:w3.cell? ⟨lg,2,none⟩=some (.int .i64 (g.slot:Int)):=ae _ _ 2 _ _ _ b
  have c3:w3.cell? ⟨lg,3,none⟩=some (.int .i64 (g.next:Int)):=ae _ _ 3 _ _ _ b
  have f2:=aj _ _ 2 _ _ b
  have f3:=aj _ _ 3 _ _ b
  have bt:=fO b
  clear b
  go_wp2
  go_ret
  refine ⟨_,rfl,?_⟩
  rw [G.out,ba.out,show (2:Int)*(pl:Int)=((2*placeOf H.seen.length:Nat):Int) by rw [←al.out];omega]
  refine ⟨rfl,heap_setCell _ _ 3 _ (heap_setCell _ _ 2 _ av.out),((iy.gD s.out U.out).zA rfl J N _ _).zA rfl J N _ _,V.out⟩
theorem Fx (H:fP) (n:Nat) (s:List UInt8):(H.write n s).1.seen.length=H.seen.length:=by
 unfold fP.write
 split
 ·rfl
 ·exact bW
theorem Ey (H:fP):H.flush.1.seen.length=H.seen.length:=by
 unfold fP.flush
 split
 ·rfl
 ·split <;> rfl
theorem xn:∀ (l:List (List UInt8)) (H:fP) (n:Nat),(gH l H n).1.seen.length=H.seen.length
 | [],_,_=>rfl
 | s::l,H,n=>by
  unfold gH
  have h1:=Fx H n s
  generalize H.write n s=q at h1⊢
  obtain ⟨b,d⟩:=q
  cases d with
  | some f=>exact h1
  | none=>exact (xn l b (n+1)).trans h1
theorem zq (H:fP) (g:LogS) (at':Nat) (data:List UInt8):(fV H g at' data).1.seen.length=H.seen.length:=by
 unfold fV
 have h1:=xn (gA (g.stamp+1) data) H at'
 generalize gH (gA (g.stamp+1) data) H at'=q at h1⊢
 obtain ⟨b,d⟩:=q
 cases d with
 | some f=>exact h1
 | none=>exact (Ey b).trans h1
theorem AP {H:fP} {g:LogS} {v:Nat} {T:List E} (h:(gd H g v T).2.2=none):(gd H g v T).2.1=⟨g.stamp+1,1-g.slot,2*placeOf H.seen.length⟩∧(gd H g v T).1.seen.length=H.seen.length:=by
 unfold gd at h⊢
 have h1:=zq H g ((1-g.slot)*placeOf H.seen.length) (gX v T)
 generalize fV H g ((1-g.slot)*placeOf H.seen.length) (gX v T)=q at h h1⊢
 obtain ⟨d,b⟩:=q
 cases b with
 | some f=>cases h
 | none=>exact ⟨rfl,h1⟩
theorem CV (lg h:Nat) (F:Nat→Prop) (H:fP) (g:LogS) (B q off r v:Nat) (T:List E) (dv:Value) (b:List UInt8) (w:World) (hl:LogAt w lg h g) (hh:HostAt w F h H) (aa:HostOk H B) (hB:B≤800000000) (O:¬F lg) (he:EntAt w q off r T) (hq:¬F q∧q≠lg) (_hr:¬F r∧r≠lg)
  (bN:g.slot<2) (bO:sizeS T≤16*(H.seen.length-8)) (hT:T.length<65536) (hv:v<18446744073709551616) (bP:∀ x∈T,0≤x.1.1∧x.1.1<256∧x.1.2.length≤100∧x.2.length≤100) (cq:g.stamp<8999999999999999999)
  (am:BytesAt w dv b) (a9:∀ k,dv.ownBlock=some k→¬F k∧k≠lg∧k<w.heap.size) (cr:b.length≤700) (cs:g.next≤H.seen.length) :
  Calls Tryz.prog 155 #[.pointer (some ⟨lg,0,none⟩),dv,.int .u64 (v:Nat),.pointer (some ⟨q,off,none⟩)] w fun e w'=>∃ r,e = .returned r∧xU w w' r (gY H g b v T).2.2∧LogAt w' lg h (gY H g b v T).2.1∧iy w F (fun k=>k=lg) h (gY H g b v T).1 w'∧HostOk (gY H g b v T).1 (B+256):=by
 have hn:=aa.n
 have ct:=jq hn.1 hn.2
 obtain ⟨P,hP⟩:∃ P,P=partsOf b.length:=⟨_,rfl⟩
 have ba:((b.length:Int)+53-1) / 53=(P:Int):=by rw [hP];unfold partsOf;omega
 have cl:P≤14:=by rw [hP];unfold partsOf;omega
 have bX:=ab ba
 have y:=ab hP
 have b0:=ab (oy h F H)
 have ap:=ab (fun (W:World) (hW:Below w.heap.size w W)=>uq lg h F H g B q off r v T W (fQ hW (fO hl) hl) (hh.below hW) aa (by omega) O (he.below hW) bN bO hT hv bP (by omega))
 have cu:=nu h
 have cv:=lz h
 obtain ⟨da,dc,rfl,cB,-⟩:=am.opened
 have R:=hl
 unfold LogAt at R
 have c0:w.cell? ⟨lg,0,none⟩=some (.iface 217 (.agg #[.pointer (some ⟨h,0,none⟩)])):=ae _ _ 0 _ _ _ R
 have c3:w.cell? ⟨lg,3,none⟩=some (.int .i64 (g.next:Int)):=ae _ _ 3 _ _ _ R
 have ag:=fO R
 have HH:=ab hh
 have HL:=ab hl
 have c1:=ab hh.lt
 have b2:=ab aa
 have bb:=ab am
 have G:=ab a9
 clear hl R hh aa am a9 hP ba
 go_enter Tryz.func155,Tryz.ntmps155
 go_wp2
 rw [bX.out]
 go_region_held3 (fun w'=>w'.cell? ⟨lg,0,none⟩=some (.iface 217 (.agg #[.pointer (some ⟨h,0,none⟩)]))∧w'.cell? ⟨lg,3,none⟩=some (.int .i64 (g.next:Int)))
  (first | exact ⟨c0,c3⟩ | exact ⟨(m.out.cell (p:=⟨lg,0,none⟩) ag).trans c0,(m.out.cell (p:=⟨lg,3,none⟩) ag).trans c3⟩)
  (first | (go_at_call 251;refine (b0.out _ (by first | exact HH.out | exact HH.out.frame (af _) (fun _ _=>rfl))).mono ?_;rintro e w1 ⟨rfl,av⟩;have m:Hid (Below w.heap.size w w1):=ab (by first | exact av | exact (Below.rf w).drew.tn av);clear av))
 rw [show IntKind.i64.wrap ((g.next:Int)+(P:Int))=((g.next+P:Nat):Int) by rw [←Int.natCast_add];exact IntWalk.i64_in _ (by omega)]
 obtain ⟨Y,hY⟩:∃ Y,Y=g.next+P:=⟨_,rfl⟩
 rw [←hY]
 have HY:=ab hY
 by_cases bc:H.seen.length<Y
 ·have bs:(H.seen.length:Int)<(Y:Int):=by omega
  clear hY c0 c3
  go_wp2_with fail
  refine (ap.out w1 m.out).mono ?_
  rintro e M ⟨S,rfl,i,d,o,j⟩
  obtain ⟨Q,D⟩:∃ Q,Q=gd H g v T:=⟨_,rfl⟩
  have N:Hid (gY H g b v T=Gv b Q):=ab (by unfold gY;rw [aD (by rw [←y.out,←HY.out];exact bc),←D])
  have be:Hid (Q.2.2=none→Q.2.1=⟨g.stamp+1,1-g.slot,2*placeOf H.seen.length⟩∧Q.1.seen.length=H.seen.length):=ab (by rw [D];exact AP)
  rw [←D] at i d o j
  obtain ⟨H1,g1,rf⟩:=Q
  have C:=ab d
  have s:=ab o
  have u:=ab j
  clear o j D ap
  simp only at i s u N be C
  cases rf with
  | some f =>
   have U:=ab (show kL w1 M S f from i)
   obtain ⟨eb,rfl,-,-⟩:=i
   clear d
   go_wp2
   go_ret
   refine ⟨_,rfl,?_⟩
   rw [N.out]
   exact ⟨U.out.mono m.out.size,C.out,iy.gD m.out s.out,u.out.mono (by omega)⟩
  | none =>
  obtain rfl:S = .nilIface:=i
  have I:Hid (gY H g b v T=gM H1 g1 b):=ab N.out
  obtain ⟨F1,bi,bk,bl⟩:=iy.gD m.out s.out
  have b5:=ab bi
  have ak:=ab bk
  have al:=ab bl
  have b6:=u
  obtain ⟨aE,b7⟩:=be.out rfl
  have a0:g1.next=2*placeOf H.seen.length:=by rw [aE]
  have bv:g1.stamp=g.stamp+1:=by rw [aE]
  have a1:¬F1 lg:=fun e=>(ak.out lg e).elim O (fun h=>by omega)
  have bw:=ab a1
  have bx:Hid (BytesAt M (.slice da b.length dc) b):=ab (fW.frame bb.out fun k e hk=>al.out.block k hk fun e'=>e'.elim (G.out k e).1 (G.out k e).2.1)
  have bz:Hid (∀ k,(Value.slice da b.length dc).ownBlock=some k→¬F1 k∧k≠lg):=ab fun k e=>⟨fun hF=>(ak.out k hF).elim (G.out k e).1 (fun h=>by have:=(G.out k e).2.2;omega),(G.out k e).2.1⟩
  have b8:Hid (g1.next+partsOf b.length≤H1.seen.length):=ab (by rw [b7,a0,←y.out];omega)
  have bD:Hid (g1.stamp<9000000000000000000):=ab (by omega)
  have ca:g1.next+P≤1000:=by omega
  have V:=C.out
  have l:=V
  clear bi bk bl aE bv a1 a0 d
  unfold LogAt at l
  have e0:M.cell? ⟨lg,0,none⟩=some (.iface 217 (.agg #[.pointer (some ⟨h,0,none⟩)])):=ae _ _ 0 _ _ _ l
  have e3:M.cell? ⟨lg,3,none⟩=some (.int .i64 (g1.next:Int)):=ae _ _ 3 _ _ _ l
  have bI:=fO l
  have X:=ab (pB lg h F1 H1 g1 g1.next (B+128) (.slice da b.length dc) b M V b5.out b6.out (by omega) bw.out bx.out bz.out b8.out bD.out)
  clear l
  go_wp2_with fail
  refine X.out.mono ?_
  rintro e w5 ⟨S,rfl,i,d,o,j⟩
  obtain ⟨Q,D⟩:∃ Q,Q=fV H1 g1 g1.next b:=⟨_,rfl⟩
  have J:Hid (gM H1 g1 b=qm g1 b Q):=ab (by unfold gM;rw [←D])
  rw [←D] at i o j
  obtain ⟨H5,rf⟩:=Q
  have C:=ab d
  have s:=ab o
  have u:=ab j
  clear o j D X e0 e3
  simp only at i s u J
  cases rf with
  | some f =>
   have U:=ab (show kL M w5 S f from i)
   obtain ⟨eb,rfl,-,-⟩:=i
   clear d
   go_wp2
   go_ret
   refine ⟨_,rfl,?_⟩
   rw [I.out,J.out]
   exact ⟨U.out.mono al.out.size,C.out,iy.trans ak.out al.out s.out,u.out.mono (by rw [←y.out];omega)⟩
  | none =>
   obtain rfl:S = .nilIface:=i
   unfold LogAt at d
   have d3:w5.cell? ⟨lg,3,none⟩=some (.int .i64 (g1.next:Int)):=ae _ _ 3 _ _ _ d
   have f3:=aj _ _ 3 _ _ d
   have bL:=fO d
   have Z:((g1.next:Int)+(P:Int))=((g1.next+partsOf b.length:Nat):Int):=by rw [y.out];omega
   have a2:=ab Z
   have bM:g1.next≤1000:=by omega
   clear d Z
   go_wp2
   go_ret
   refine ⟨_,rfl,?_⟩
   rw [I.out,J.out,a2.out]
   exact ⟨rfl,heap_setCell _ _ 3 _ C.out,(iy.trans ak.out al.out s.out).zA rfl O ag _ _,u.out.mono (by rw [←y.out];omega)⟩
 ·have bs:¬(H.seen.length:Int)<(Y:Int):=by omega
  have I:Hid (gY H g b v T=gM H g b):=ab (by unfold gY;rw [au (by rw [←y.out,←HY.out];exact bc)])
  have V:LogAt w1 lg h g:=fQ m.out (fO HL.out) HL.out
  have l:=V
  have cb:g.next+P≤H.seen.length:=by omega
  have ca:g.next+P≤1000:=by omega
  clear hY c0 c3 ap
  unfold LogAt at l
  have e0:w1.cell? ⟨lg,0,none⟩=some (.iface 217 (.agg #[.pointer (some ⟨h,0,none⟩)])):=ae _ _ 0 _ _ _ l
  have e3:w1.cell? ⟨lg,3,none⟩=some (.int .i64 (g.next:Int)):=ae _ _ 3 _ _ _ l
  have bI:=fO l
  have X:=ab (pB lg h F H g g.next (B) (.slice da b.length dc) b w1 V (HH.out.below m.out) b2.out (by omega) O (bb.out.below m.out) (fun k e=>⟨(G.out k e).1,(G.out k e).2.1⟩) (by rw [←y.out];exact cb) (by omega))
  clear l
  go_wp2_with fail
  refine X.out.mono ?_
  rintro e w5 ⟨S,rfl,i,d,o,j⟩
  obtain ⟨Q,D⟩:∃ Q,Q=fV H g g.next b:=⟨_,rfl⟩
  have J:Hid (gM H g b=qm g b Q):=ab (by unfold gM;rw [←D])
  rw [←D] at i o j
  obtain ⟨H5,rf⟩:=Q
  have C:=ab d
  have s:=ab o
  have u:=ab j
  clear o j D X e0 e3
  simp only at i s u J
  cases rf with
  | some f =>
   have U:=ab (show kL w1 w5 S f from i)
   obtain ⟨eb,rfl,-,-⟩:=i
   clear d
   go_wp2
   go_ret
   refine ⟨_,rfl,?_⟩
   rw [I.out,J.out]
   exact ⟨U.out.mono m.out.size,C.out,iy.gD m.out s.out,u.out.mono (by rw [←y.out];omega)⟩
  | none =>
   obtain rfl:S = .nilIface:=i
   unfold LogAt at d
   have d3:w5.cell? ⟨lg,3,none⟩=some (.int .i64 (g.next:Int)):=ae _ _ 3 _ _ _ d
   have f3:=aj _ _ 3 _ _ d
   have bL:=fO d
   have Z:((g.next:Int)+(P:Int))=((g.next+partsOf b.length:Nat):Int):=by rw [y.out];omega
   have a2:=ab Z
   have bM:g.next≤1000:=by omega
   clear d Z
   go_wp2
   go_ret
   refine ⟨_,rfl,?_⟩
   rw [I.out,J.out,a2.out]
   exact ⟨rfl,heap_setCell _ _ 3 _ C.out,(iy.gD m.out s.out).zA rfl O ag _ _,u.out.mono (by rw [←y.out];omega)⟩
end Go.Proofs.YtkkfmkhbdoeglabGreatDoor
