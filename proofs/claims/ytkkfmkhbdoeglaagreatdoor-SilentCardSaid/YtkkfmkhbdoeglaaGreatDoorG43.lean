/- A part of what is proved here: lemmas and contracts of single functions. No condition but those that each names. -/
import Derived.Test.YtkkfmkhbdoeglaaGreatDoorG00
import Derived.Test.YtkkfmkhbdoeglaaGreatDoorG42
set_option maxHeartbeats 4000000
set_option maxRecDepth 100000
namespace Go.Proofs.YtkkfmkhbdoeglaaGreatDoor
open Go.RowKit Go.Shelf
theorem Ey (X h:Nat) (j:Value) (F:Nat→Prop) (x:HV) (H:fx) (n:Int) (w:World) (h1:w.heap[X]?=some (.cells #[.pointer (some ⟨h,0,none⟩),j] 91 (0,0))) (h2:gB w F h x H) (q:n≤9223372036854775807) :
  Calls Tryz.prog 26 #[.pointer (some ⟨X,0,none⟩),.int .i64 n] w fun e w'=>e = .returned (.tuple #[])∧gB w' F h {x with left:=max n (-1)} {H with dp := {H.dp with left:=max n (-1)}}∧Ext (fun k=>k=h) w w'∧w'.heap.size=w.heap.size:=by
 have b:w.heap[h]?=_:=h2.dp.row
 have l:=ab b
 unfold HV.cells at b
 have c0:=ae _ _ 0 _ _ _ h1
 have d3:=ae _ _ 3 _ _ _ b
 have z3:=aj _ _ 3 _ _ b
 have m:=fw h1
 have o:=fw b
 have d:=ab h2
 clear h1 h2 b
 go_enter Tryz.func26,Tryz.ntmps26
 go_wp2
 go_end0
 have i:Ext (fun k=>k=h) w (w.setCell ⟨h,3,none⟩ (.int .i64 (max n (-1)))):=(Ext.refl _ w).setCell ⟨h,3,none⟩ _ (.inl rfl)
 refine ⟨rfl,d.out.row (heap_setCell _ _ 3 _ l.out) (size_setCell _ _ _) i ⟨rfl,rfl,rfl,rfl,rfl,rfl⟩ ⟨rfl,rfl,rfl,rfl,rfl,rfl⟩ ⟨rfl,d.out.dp.dead,d.out.fail,d.out.writes⟩ ?_,i,size_setCell _ _ _⟩
 show -1≤max n (-1)∧max n (-1)≤_
 omega
theorem C4 (X h:Nat) (j:Value) (F:Nat→Prop) (x:HV) (H:fx) (n:Int) (w:World) (h1:w.heap[X]?=some (.cells #[.pointer (some ⟨h,0,none⟩),j] 91 (0,0))) (h2:gB w F h x H) :
  Calls Tryz.prog 8 #[.pointer (some ⟨X,0,none⟩),.int .i64 n] w fun e w'=>e = .returned (.tuple #[])∧gB w' F h {x with fail:=max n (-1)} {H with fail:=max n (-1)}∧Ext (fun k=>k=h) w w'∧w'.heap.size=w.heap.size:=by
 have b:w.heap[h]?=_:=h2.dp.row
 have l:=ab b
 unfold HV.cells at b
 have c0:=ae _ _ 0 _ _ _ h1
 have d3:=ae _ _ 4 _ _ _ b
 have z3:=aj _ _ 4 _ _ b
 have m:=fw h1
 have o:=fw b
 have d:=ab h2
 clear h1 h2 b
 go_enter Tryz.func8,Tryz.ntmps8
 go_wp2
 go_end0
 have i:Ext (fun k=>k=h) w (w.setCell ⟨h,4,none⟩ (.int .i64 (max n (-1)))):=(Ext.refl _ w).setCell ⟨h,4,none⟩ _ (.inl rfl)
 exact ⟨rfl,d.out.row (heap_setCell _ _ 4 _ l.out) (size_setCell _ _ _) i ⟨rfl,rfl,rfl,rfl,rfl,rfl⟩ ⟨rfl,rfl,rfl,rfl,rfl,rfl⟩ ⟨d.out.dp.left,d.out.dp.dead,rfl,d.out.writes⟩ d.out.dp.lb,i,size_setCell _ _ _⟩
theorem FD (a:Int):bits BinOp.and IntKind.i64 a 1=a%2:=by
 show IntKind.i64.wrap (((BitVec.ofInt 64 a &&& BitVec.ofInt 64 1).toNat:Nat):Int)=a%2
 rw [BitVec.toNat_and,show (BitVec.ofInt 64 1).toNat=1 from rfl,Nat.and_one_is_mod,BitVec.toNat_ofInt]
 have h:(((a%((2^64:Nat):Int)).toNat%2:Nat):Int)=a%2:=by omega
 rw [h]
 have h2:a%2=((a%2).toNat:Int):=by omega
 rw [h2]
 exact IntWalk.i64_in _ (by omega)
theorem E7 (mask:Int) (k:Nat):(bits BinOp.and IntKind.i64 (mask / 2^(k%60)) 1==1)=oc mask k:=by
 rw [FD]
 unfold oc
 rfl
theorem nK.op {w w':World} {M:Nat→Prop} {X:Nat} {R:fx×(PAg⊕(Nat×Nat×Nat))} {e:Ending} (h:nK w M X R e w'):∃ k a s P',e = .returned (lU k a s)∧iZ w M X R.1 P' w'∧∀ b d w2,iZ b d X R.1 P' w2→nK b d X R (.returned (lU k a s)) w2:=by
 obtain ⟨H',r⟩:=R
 cases r with
 | inl p =>
  obtain ⟨h1,h2⟩:=h
  exact ⟨0,0,0,some p,h1,h2,fun _ _ _ h=>⟨rfl,h⟩⟩
 | inr y =>
  obtain ⟨k,a,s⟩:=y
  obtain ⟨h1,h2⟩:=h
  exact ⟨k,a,s,none,h1,h2,fun _ _ _ h=>⟨rfl,h⟩⟩
theorem take_set {α:Type} {A D:List α} {k:Nat} {b : α} (hk:A[k]?=some b) (hl:D.length=A.length):(A.take k++D.drop k).set k b=A.take (k+1)++D.drop (k+1):=by
 obtain ⟨d,rfl⟩:=aF.1 hk
 have h1:(A.take k).length=k:=by rw [aD];omega
 rw [List.set_append_right _ _ (by omega),h1,dU,cn (by omega),ai,aW d,bq]
 rfl
def EB (b:World) (F:Nat→Prop) (h:Nat) (x:HV) (H:fx) (A:List (List UInt8)) (k:Nat) (wr:World):Prop :=
 ∃ F',gB wr F' h {x with late := .slice none 0 0} {H with held:=A,late:=[],seen:=A.take k++H.seen.drop k}∧(∀ j,F' j→F j∨b.heap.size≤j)∧Ext F b wr
def GO (b:World) (F:Nat→Prop) (h:Nat) (x:HV) (H:fx) (mask:Int) (k:Nat) (wr:World):Prop :=
 gB wr F h x {H with held:=applySel (oc mask) 0 (H.late.take k) H.held}∧Ext F b wr
theorem xS (n B X:Nat) (l:List Int) (M:Nat→Prop) (H:fx) (P:Option PAg) (mask cut fail:Int) (w:World) (hh:HostX w M X H P) (aa:Fine n l B H) (h2:B≤800000000) (ho:oD n l (H.again mask cut fail).seen) (_hm : -9223372036854775808≤mask∧mask≤9223372036854775807) (hc:cut≤9223372036854775807) (hf:fail≤9223372036854775807) (bD:ShapesVar w) (c3:ErrVar w) (c4:∀ k,M k→2≤k) :
  Calls Tryz.prog 21 #[.pointer (some ⟨X,0,none⟩),.int .i64 mask,.int .i64 cut,.int .i64 fail] w (nK w M X (gO (H.again mask cut fail))):=by
 obtain ⟨h,h3,F,d,hX,⟨x,a0⟩,hF,-,ap,f0⟩:=hh.host
 subst f0
 have Q:Below w.heap.size w (w.alloc (.cells #[.int .i64 0,.int .i64 0,.int .i64 0] 38)):=(Below.rf w).alloc (af _) _
 have R0:=fA w (.cells #[.int .i64 0,.int .i64 0,.int .i64 0] 38)
 have c5:=fy Q (fw d) d
 have ak:=a0.frame Q.size fun k hk=>Q.block k (a0.lt k hk)
 have c6:=ab a0.lt
 have f3:Hid (X<w.heap.size):=ab (fw d)
 have f4:Hid (2≤w.heap.size):=ab bD.two
 have bl:Hid (F h):=ab a0.foot.1
 have f5:=ab Q
 have f6:=ab R0
 have a1:=ab c5
 have HF:=ab hF
 have bo:=ab aa
 have HO:=ab ho
 have f7:=ab (bD.new Q)
 have f8:=ab (c3.new Q)
 have br:=ab c4
 have hv:(w.alloc (.cells #[.int .i64 0,.int .i64 0,.int .i64 0] 38)).heap.size=w.heap.size+1:=ax _ _
 have hw:H.late.length≤1000000000:=aH aa.ok.ll (by omega)
 have hx:H.held.length≤1000:=by rw [aa.ok.hl];have:=aa.ok.n;omega
 have f9:=ab (fun y (hZ:y∈H.late)=>(aa.ok.late y hZ).2)
 clear hh d a0 Q R0 c5 hF aa ho bD c3 c4
 obtain ⟨R,h0⟩:∃ R,R=gO (H.again mask cut fail):=⟨_,rfl⟩
 have c7:=ab h0
 rw [←h0]
 clear h0
 go_enter Tryz.func21,Tryz.ntmps21
 go_upto_region 1 with fail
 generalize w.alloc (.cells #[.int .i64 0,.int .i64 0,.int .i64 0] 38)=Z at *
 have c0:=ae _ _ 0 _ _ _ a1.out
 have ga:=fw a1.out
 have gb:=ab ak
 have G:=ak.dp.row
 unfold HostIs HV.cells at G
 obtain ⟨la,e4,bH,hy,-⟩:=ak.late.get
 have c8:=ab bH
 rw [bH] at G
 have d2:=ae _ _ 2 _ _ _ G
 have gc:=fw G
 clear ak G bH
 go_upto_region 3 with fail
 clear c0 d2 ga gc
 go_loopw [22] (fun i wr=>∃ k:Nat,k≤H.late.length∧i = .int .i64 (k:Int)∧GO Z F h x H mask k wr) (fun i _=>H.late.length-(intOf i).toNat)
 case atStart=>exact ⟨0,aK _,rfl,gb.out,Ext.refl _ _⟩
 case round =>
  obtain ⟨k,hk,rfl,hrel⟩:=hrel
  obtain ⟨J,c9⟩:=hrel
  have o:=ab J
  have bI:=ab c9
  have d:=J.dp.row
  unfold HostIs HV.cells at d
  have da:=fw d
  by_cases bs:k<H.late.length
  ·obtain ⟨b,hW⟩:∃ b,b=H.late[k]:=⟨_,rfl⟩
   have bL:H.late[k]?=some b:=by rw [hW];exact aw bs
   have bM:b.2<H.held.length:=f9.out b (by rw [hW];exact cL bs)
   obtain ⟨hz,cu,bN,-,S⟩:=J.late.get
   obtain ⟨g0,off,u,rfl,d0,d1,r⟩:=S k b bL
   have e1:Value.slice la H.late.length e4 = .slice (some ⟨g0,off,none⟩) H.late.length cu:=c8.out.symm.trans bN
   obtain ⟨rfl,-,rfl⟩:=Value.slice.inj e1
   have hlen:(applySel (oc mask) 0 (H.late.take k) H.held).length=H.held.length:=mn _ _ _ _
   obtain ⟨gs,os,cap,u0,U,s0,sf,⟨Cg,ge,bS⟩,gf⟩:=J.held.store (n:=b.2) (by show _<(applySel (oc mask) 0 (H.late.take k) H.held).length;rw [hlen];exact bM)
   have bX:x.held = .slice (some ⟨gs,os,none⟩) H.held.length cap:=by rw [←hlen];exact U
   obtain ⟨V,W,a7,-,-⟩:=r.1.opened
   subst a7
   rw [bX] at d
   have c0:wr.cell? ⟨h,0,none⟩=some (.slice (some ⟨gs,os,none⟩) H.held.length cap):=ae _ _ 0 _ _ _ d
   have dc:=fE d0
   have am:gs<wr.heap.size:=fE s0
   obtain ⟨O,bn⟩:=b
   simp only at bM d0 d1 s0 sf r
   have g1:(k:Int)<H.late.length:=by omega
   have g2:(bn:Int)<H.held.length:=by omega
   have a9:=ab r
   have bt:=ab U
   have b0:=ab bL
   have e5:=ab hlen
   have gg:=ab bM
   clear J c9 d hW bL S bN e1 hlen U bX r bS
   have N:Hid (Below wr.heap.size wr (wr.alloc (.cells #[.int .i64 (bn:Int),.slice V O.length W] 125))):=ab ((Below.refl _ wr).alloc (af _) _)
   have ag:applySel (oc mask) 0 (H.late.take (k+1)) H.held=if oc mask k then (applySel (oc mask) 0 (H.late.take k) H.held).set bn O else applySel (oc mask) 0 (H.late.take k) H.held:=by
    rw [lA _ _ b0.out,ny,aD,Nat.min_eq_left (by omega),bE]
   have hq:=E7 mask k
   cases av:oc mask k with
   | false =>
    rw [av] at hq ag
    have b1:=ab ag
    clear ag av
    go_wp2
    refine ⟨⟨k+1,by omega,by go_num,⟨?_,(bI.out.trans (Ext.fD N.out))⟩⟩,by simp [intOf];omega⟩
    rw [b1.out]
    exact o.out.frame N.out.size fun j m=>N.out.block j (o.out.lt j m)
   | true =>
    rw [av] at hq ag
    have b1:=ab ag
    clear ag av
    have Y:=fA wr (.cells #[.int .i64 (bn:Int),.slice V O.length W] 125)
    have gl:=fT (.cells #[.int .i64 (bn:Int),.slice V O.length W] 125) c0
    have dk:=fT (.cells #[.int .i64 (bn:Int),.slice V O.length W] 125) s0
    have gn:(wr.alloc (.cells #[.int .i64 (bn:Int),.slice V O.length W] 125)).frozen? ⟨gs,os+bn,none⟩=false:=(cP (w:=wr) (a:=⟨gs,os+bn,none⟩) (heap_alloc_old wr _ am)).trans sf
    go_upto_region 6 with fail
    obtain ⟨wa,dl⟩:∃ wa,wa=wr.alloc (.cells #[.int .i64 (bn:Int),.slice V O.length W] 125):=⟨_,rfl⟩
    rw [←dl] at N Y gl dk gn⊢
    have n0:wa.cell? ⟨wr.heap.size,0,none⟩=some (.int .i64 (bn:Int)):=ae _ _ 0 _ _ _ Y
    have n1:wa.cell? ⟨wr.heap.size,1,none⟩=some (.slice V O.length W):=ae _ _ 1 _ _ _ Y
    have b2:=ab (o.out.frame N.out.size fun k hk=>N.out.block k (o.out.lt k hk))
    have go:=ab (bI.out.trans (Ext.fD N.out))
    have hA:gs<wa.heap.size:=fE dk
    have hB:gs≠wr.heap.size:=by omega
    have hC:=fw Y
    have hp:=fw b2.out.dp.row
    clear dl c0 s0 sf d0 d1 da dc Y
    go_region
    go_wp2
    have bb:=b2.out.BT (w':=wa.setCell ⟨gs,os+bn,none⟩ (.slice V O.length W)) (F':=F) (n:=bn) (s:=O) (u := .slice V O.length W) bt.out (by show bn<(applySel (oc mask) 0 (H.late.take k) H.held).length;rw [e5.out];exact gg.out)
     (a9.out.fP fun j C fz m _=>N.out.block j (fw m)) (fun _ h=>h) b2.out.lt rfl
    obtain ⟨q1,q2,q3⟩:=bb
    refine ⟨⟨k+1,by omega,by go_num,?_,(go.out.trans q3).drew⟩,by simp [intOf];omega⟩
    have q4:=q1.frame (w':=(wa.setCell ⟨gs,os+bn,none⟩ (.slice V O.length W)).drew) (af _) (fun _ _=>rfl)
    rw [b1.out,aB rfl]
    exact q4
  ·obtain rfl:k=H.late.length:=by omega
   have g1:¬(H.late.length:Int)<H.late.length:=by omega
   rw [c8.out] at d
   have c2:=ae _ _ 2 _ _ _ d
   have f2:=aj _ _ 2 _ _ d
   have c0:=ae _ _ 0 _ _ _ d
   clear d
   rw [bp] at o
   obtain ⟨A,hY⟩:∃ A,A=applySel (oc mask) 0 H.late H.held:=⟨_,rfl⟩
   rw [←hY] at o
   have dn:A.length=H.held.length:=by rw [hY];exact mn _ _ _ _
   have HA:=ab hY
   have e7:Hid (∀ b∈A,b.length=64):=ab (by rw [hY];exact ox _ (fun b=>b.length=64) _ _ _ (fun y hZ=>(bo.out.ok.late y hZ).1) bo.out.ok.h64)
   have ht:H.seen.length=H.held.length:=bo.out.ok.hl.symm
   have b4:=o.out.GC (w1:=wr.setCell ⟨h,2,none⟩ (.slice none 0 0)) (x' := {x with late := .slice none 0 0}) (H' := {H with held:=A,late:=[],seen:=A.take 0++H.seen.drop 0})
    (heap_setCell _ _ 2 _ o.out.dp.row) (size_setCell _ _ _) ((Ext.refl _ wr).setCell _ _ (.inl rfl)) ⟨rfl,rfl,rfl,rfl,rfl⟩ ⟨rfl,rfl,rfl,rfl,rfl⟩ ⟨o.out.dp.left,o.out.dp.dead,o.out.fail,o.out.writes⟩ o.out.dp.lb (LateAt.nil _ _)
   have ds:Ext F Z (wr.setCell ⟨h,2,none⟩ (.slice none 0 0)):=bI.out.setCell _ _ (.inl o.out.foot.1)
   obtain ⟨ha,e8,U,-,-⟩:=o.out.held.get
   rw [U] at c0
   simp only [dn] at c0
   have bt:=ab U
   have gp:=ab (⟨F,b4,fun j => .inl,ds⟩:EB Z F h x H A 0 _)
   clear hY b4 ds U
   go_upto_region 10 with fail
   clear c0 c2 f2 da
   generalize wr.setCell ⟨h,2,none⟩ (.slice none 0 0)=w5 at *
   go_loopw [51] (fun i wr=>∃ k:Nat,k≤H.held.length∧i = .int .i64 (k:Int)∧EB Z F h x H A k wr) (fun i _=>H.held.length-(intOf i).toNat)
   case atStart=>exact ⟨0,aK _,rfl,gp.out⟩
   case round =>
    obtain ⟨k,hk,rfl,hrel⟩:=hrel
    obtain ⟨F',a3,dv,d3⟩:=hrel
    have E:=ab a3
    have b5:=ab d3
    have b6:=ab dv
    have d:=a3.dp.row
    unfold HostIs HV.cells at d
    have d4:=fw d
    have b7:(A.take k++H.seen.drop k).length=H.held.length:=by rw [aq,aD,cd];omega
    by_cases bs:k<H.held.length
    ·obtain ⟨b,hW⟩:∃ b,A[k]?=some b:=⟨A[k]'(by omega),aw (by omega)⟩
     have bd:b.length=64:=e7.out b (aU hW)
     obtain ⟨hD,cB,b8,-,S⟩:=a3.held.get
     obtain ⟨g0,off,u,rfl,d0,r⟩:=S k b hW
     have e1:Value.slice ha A.length e8 = .slice (some ⟨g0,off,none⟩) A.length cB:=bt.out.symm.trans b8
     obtain ⟨rfl,-,rfl⟩:=Value.slice.inj e1
     obtain ⟨gs,os,cap,u0,ca,s0,sf,⟨Cg,ge,bS⟩,gf⟩:=a3.seen.store (n:=k) (by show k<(A.take k++H.seen.drop k).length;omega)
     have bi:x.seen = .slice (some ⟨gs,os,none⟩) (A.take k++H.seen.drop k).length cap:=ca
     rw [b7] at bi
     obtain ⟨V,W,a7,-,-⟩:=r.1.opened
     subst a7
     rw [bd] at d0 r
     have c0:=ae _ _ 0 _ _ _ d
     have c1:=ae _ _ 1 _ _ _ d
     rw [bt.out] at c0
     simp only [dn] at c0
     simp only [bi] at c1
     have dc:g0<wr.heap.size:=fE d0
     have am:gs<wr.heap.size:=fE s0
     have g1:(k:Int)<H.held.length:=by omega
     have a9:=ab r
     have gq:=ab ca
     have b0:=ab hW
     have gt:=ab b7
     have hE:(64:Nat)≤fX:=by decide
     have cb:=ab bd
     clear a3 d3 dv d hW S b8 e1 b7 ca bi r bS bd
     go_upto_region 12 with fail
     go_region_law
      ((first
        | (refine kx rfl (.const (.slice none 0 0)) (.tmp 65) rfl wr.heap.size (.slice none 0 0) 0 [] rfl (OwnS.nil _ _ _) (CellsOf.nil _ _) b (by exact a9.out.1) (by rw [cb.out];omega) (af _) ?_;intro v7 w7 I hG e9 bv;
           rw [cb.out,bE] at I;obtain ⟨d6,d7,rfl⟩:=I.shape;
           have d8:w7.cell? ⟨gs,os+k,none⟩=some u0:=(bv.cell (p:=⟨gs,os+k,none⟩) am).trans s0;
           have gu:w7.frozen? ⟨gs,os+k,none⟩=false:=(cP (w:=wr) (a:=⟨gs,os+k,none⟩) (bv.block gs am)).trans sf;
           have d9:w7.cell? ⟨h,1,none⟩=some (.slice (some ⟨gs,os,none⟩) H.held.length cap):=(bv.cell (p:=⟨h,1,none⟩) d4).trans c1;
           have gv:=fE d8;have fb:=fE d9)))
     all_goals
      have aE:Below wr.heap.size wr w7:=(Below.rf wr).drew.trans bv
      have a4:=(E.out.frame aE.size fun j m=>aE.block j (E.out.lt j m))
      have bb:=a4.BN (w':=w7.setCell ⟨gs,os+k,none⟩ (.slice d6 64 d7)) (F':=fun j=>F' j∨(wr.heap.size≤j∧j<w7.heap.size)) (n:=k) (s:=b) (u := .slice d6 64 d7) gq.out (by show k<(A.take k++H.seen.drop k).length;rw [gt.out];exact bs)
       ⟨(by have:=I.bytes;exact this),e9,fun j e => .inr ⟨I.fL j e,I.gQ j e⟩⟩ (fun j m => .inl m) (fun j m=>m.elim (fun m=>ay (E.out.lt j m) aE.size) fun m=>m.2) rfl
      obtain ⟨q1,q2,q3⟩:=bb
      have eb:(A.take k++H.seen.drop k).set k b=A.take (k+1)++H.seen.drop (k+1):=take_set b0.out (by omega)
      rw [eb] at q1
      clear d8 gu d9 gv fb eb a4
      go_wp2
      refine ⟨⟨k+1,by omega,by go_num,⟨_,q1,fun j m => ?_,?_⟩⟩,by simp [intOf];omega⟩
      ·rcases m with m | m
       ·exact b6.out j m
       ·exact .inr (aH b5.out.size m.1)
      ·exact (b5.out.trans (Ext.fD aE)).trans' q3 b6.out
    ·obtain rfl:k=H.held.length:=by omega
     have g1:¬(H.held.length:Int)<H.held.length:=by omega
     have ec:A.take H.held.length++H.seen.drop H.held.length=A:=by rw [aS (by omega),fm (by omega),cZ]
     rw [ec] at E
     have d5:=ae _ _ 5 _ _ _ d
     have z5:=aj _ _ 5 _ _ d
     have a4:Ext (fun i=>i=h) wr (wr.setCell ⟨h,5,none⟩ (.bool false)):=(Ext.refl (fun i=>i=h) wr).setCell ⟨h,5,none⟩ _ (.inl rfl)
     have ed:=E.out.row (w1:=wr.setCell ⟨h,5,none⟩ (.bool false)) (x' := {x with late := .slice none 0 0,dead:=false}) (H' := {H with held:=A,late:=[],seen:=A,dp := {H.dp with dead:=false}}) (heap_setCell _ _ 5 _ E.out.dp.row) (size_setCell _ _ _) a4 ⟨rfl,rfl,rfl,rfl,rfl,rfl⟩ ⟨rfl,rfl,rfl,rfl,rfl,rfl⟩ ⟨E.out.dp.left,rfl,E.out.fail,E.out.writes⟩ E.out.dp.lb
     have eg:X≠h:=fun e=>(HF.out h bl.out).2 e.symm
     have ce:Ext F Z (wr.setCell ⟨h,5,none⟩ (.bool false)):=b5.out.setCell ⟨h,5,none⟩ _ (.inl bl.out)
     have ej:=ce.at (fun e=>(HF.out X e).2 rfl) a1.out
     have gz:=ab (Ey X h (.pointer ap) F' _ _ cut _ ej ed hc)
     have hH:=ab eg
     have g3:=ab ce
     clear d a4 ed ce ej eg ec
     go_wp2_with fail
     refine gz.out.mono ?_
     rintro e w8 ⟨rfl,el,em,g4⟩
     have ci:Ext F Z w8:=g3.out.trans (em.mono fun j e=>e▸bl.out)
     have en:=ci.at (fun e=>(HF.out X e).2 rfl) a1.out
     have g5:=ab (C4 X h (.pointer ap) F' _ _ fail _ en el)
     have g6:=ab ci
     clear el em g4 ci en d5 z5 d4
     go_wp2_with fail
     refine g5.out.mono ?_
     rintro e w9 ⟨rfl,cl,er,bw⟩
     have a5:Ext F Z w9:=g6.out.trans (er.mono fun j e=>e▸bl.out)
     have eD:=a5.at (fun e=>(HF.out X e).2 rfl) a1.out
     have eS:=c6.out
     have bx:Ext M Z w9:=a5.mono fun j m=>(HF.out j m).1
     have hI:=f3.out
     have hJ:=f4.out
     have eT:=a5.at (fun e=>dw _ (eS _ e)) f6.out
     have bw:=a5.size
     have g7:=ab (uI n B X h l (fun j=>(F j∨j=X)∨Z.heap.size≤j) F' (H.again mask cut fail) (.pointer ap) w9 eD (.inl (.inr rfl)) ⟨_,by rw [HA.out] at cl;exact cl⟩ (fun j m=>by
       rcases b6.out j m with q | q
       ·exact ⟨.inl (.inl q),(HF.out j q).2⟩
       ·exact ⟨.inr q,by omega⟩) (bo.out.again mask cut fail hc hf) h2 HO.out (f7.out.ext bx br.out) (f8.out.ext bx br.out) (fun j m=>by
       rcases m with (q | q) | q
       ·exact br.out j (HF.out j q).1
       ·exact q▸br.out X hX
       ·omega))
     have g8:=ab bx
     have g9:=ab eT
     have hb:=ab bw
     clear cl er a5 eD bx eT bw eS
     go_wp2_with fail
     refine g7.out.mono ?_
     rintro e co cp
     rw [←c7.out] at cp
     obtain ⟨kk,h1,ss,P',rfl,⟨M3,J,eV,bk⟩,cq⟩:=cp.op
     have cr:¬((F w.heap.size∨w.heap.size=X)∨Z.heap.size≤w.heap.size):=fun e=>by
      rcases e with (e | e) | e
      ·exact dw _ (c6.out _ e)
      ·omega
      ·omega
     have D:=bk.at cr g9.out
     have fl:=ab D
     have fn:=ab cq
     have fo:=ab J
     have e0:=ab eV
     have fp:=ab bk
     have hd:=ab cr
     have hL:=ae _ _ 0 _ _ _ D
     have hM:=ae _ _ 1 _ _ _ D
     have hN:=ae _ _ 2 _ _ _ D
     have hO:=aj _ _ 0 _ _ D
     have hP:=aj _ _ 1 _ _ D
     have hQ:=aj _ _ 2 _ _ D
     have hR:=fw D
     clear cp J eV bk cq cr D c7
     unfold lU
     go_wp2
     have cs:=oH fl.out (.int .i64 (kk:Nat)) (.int .i64 (h1:Nat)) (.int .i64 (ss:Nat))
     have q0:=ae _ _ 0 _ _ _ cs
     have q1:=ae _ _ 1 _ _ _ cs
     have q2:=ae _ _ 2 _ _ _ cs
     have ct:Ext (fun k=>k=w.heap.size) co (p5 co w.heap.size (.int .i64 (kk:Nat)) (.int .i64 (h1:Nat)) (.int .i64 (ss:Nat))):=mQ co w.heap.size _ _ _
     unfold p5 at q0 q1 q2 ct
     refine aI (v:=lU kk h1 ss) (by simp [results,Tryz.results21,go_sem,q0,q1,q2,lU]) rfl ?_
     have bw:=hb.out
     refine fn.out _ _ _ ⟨M3,fo.out.frame ct fun j m e => ?_,fun j m => ?_,?_⟩
     ·have e':j=w.heap.size:=e
      subst e'
      rcases e0.out _ m with q | q
      ·exact hd.out q
      ·omega
     ·rcases e0.out _ m with ((q | q) | q) | q
      ·exact .inl (HF.out j q).1
      ·exact .inl (q▸hX)
      ·exact .inr (by omega)
      ·exact .inr (by omega)
     ·refine ((((Ext.fD f5.out).trans g8.out).trans' fp.out fun j m => ?_).trans' ct fun j e => .inr (by have e':j=w.heap.size:=e;omega))
      rcases m with (q | q) | q
      ·exact .inl (HF.out j q).1
      ·exact .inl (q▸hX)
      ·exact .inr (by omega)
end Go.Proofs.YtkkfmkhbdoeglaaGreatDoor
