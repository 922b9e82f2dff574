/- A part of what is proved here: lemmas and contracts of single functions. No condition but those that each names. -/
import Derived.Test.YtkkfmkhbdoeglabGreatDoorG00
import Derived.BigRegion
import Derived.RegionTactic
import Derived.Test.YtkkfmkhbdoeglabGreatDoorG18
import Derived.Test.YtkkfmkhbdoeglabGreatDoorG20
import Derived.Test.YtkkfmkhbdoeglabGreatDoorG23
import Derived.Test.YtkkfmkhbdoeglabGreatDoorG24
set_option maxHeartbeats 4000000
set_option maxRecDepth 100000
namespace Go.Proofs.YtkkfmkhbdoeglabGreatDoor
open Go.RowKit Go.Shelf
theorem oH {α:Type} (b:Nat→Bool):∀ (l:List (α×Nat)) (k:Nat) (d:List α) (x : α×Nat),applySel b k (l++[x]) d=if b (k+l.length) then (applySel b k l d).set x.2 x.1 else applySel b k l d
 | [],k,d,x=>by simp [applySel]
 | y::l,k,d,x=>by
  rw [aX]
  unfold applySel
  rw [oH b l (k+1) _ x,ar,show k+(l.length+1)=k+1+l.length by omega]
theorem LateAt.get {w:World} {F:Nat→Prop} {v:Value} {late:List (List UInt8×Nat)} (h:LateAt w F v late):∃ g cap,v = .slice g late.length cap∧late.length≤cap∧∀ (i:Nat) (b:List UInt8×Nat),late[i]?=some b→∃ g0 off u,g=some ⟨g0,off,none⟩∧w.cell? ⟨g0,off+i*2,none⟩=some (.int .i64 (b.2:Int))∧w.cell? ⟨g0,off+i*2+1,none⟩=some u∧jn w F u b.1:=by
 obtain ⟨vals,E,h1,h2,h3,h4⟩:=h
 obtain ⟨hl,g,cap,o,hc,j⟩:=h1.sliceAt
 refine ⟨g,cap,o,hc,fun i b l => ?_⟩
 obtain ⟨u,hu,hs⟩:=h4 i b l
 have key:∀ (late:List (List UInt8×Nat)) (vals:List Value) (i:Nat) (b:List UInt8×Nat) (u:Value),late[i]?=some b→vals[i]?=some u→(rp late vals)[i*2]?=some (.int .i64 (b.2:Int))∧(rp late vals)[i*2+1]?=some u:=by
  intro late
  induction late with
  | nil=>intro vals i b u h;simp at h
  | cons y late ih =>
   intro vals i b u h k
   cases vals with
   | nil=>simp at k
   | cons z vals =>
    have e:rp (y::late) (z::vals) = .int .i64 (y.2:Int)::z::rp late vals:=rfl
    rw [e]
    cases i with
    | zero =>
     simp at h k
     subst h k
     exact ⟨rfl,rfl⟩
    | succ i =>
     have:=ih vals i b u (by simpa using h) (by simpa using k)
     rw [show (i+1)*2=i*2+1+1 by omega,show i*2+1+1+1=(i*2+1)+1+1 by omega]
     simpa using this
 obtain ⟨q,r⟩:=key late vals i b u l hu
 obtain ⟨s,e0⟩:=aF.1 q
 obtain ⟨x,B⟩:=aF.1 r
 obtain ⟨g0,off,m,c0⟩:=j _ s
 obtain ⟨D,C,d,c1⟩:=j _ x
 rw [m] at d
 cases d
 exact ⟨g0,off,u,m,by rw [c0,e0],by rw [aW,c1,B],hs⟩
theorem RowsAt.store {w:World} {F:Nat→Prop} {v:Value} {rows:List (List UInt8)} (h:RowsAt w F v rows) {n:Nat} (j:n<rows.length):∃ gs os cap u0,v = .slice (some ⟨gs,os,none⟩) rows.length cap∧w.cell? ⟨gs,os+n,none⟩=some u0∧w.frozen? ⟨gs,os+n,none⟩=false∧(∃ C fz,w.heap[gs]?=some (.cells C 112 fz))∧F gs:=by
 obtain ⟨vals,h1,h2,h3,h4⟩:=h
 obtain ⟨hl,b⟩:=h1
 rcases b with ⟨e,e0⟩ | ⟨g,off,cap,rfl,-,-,hc,-,l,i⟩
 ·omega
 ·obtain ⟨f1,f2⟩:=i n (by omega)
  obtain ⟨u0,d⟩:=cC.1 f1
  exact ⟨g,off,cap,u0,rfl,d,f2,h2 g rfl,h3 g rfl⟩
theorem LateAt.nil (w:World) (F:Nat→Prop):LateAt w F (.slice none 0 0) []:=⟨[],rfl,OwnS.nil _ _ _,CellsOf.nil _ _,fun k e=>by simp [Value.ownBlock] at e,fun i b h=>by simp at h⟩
theorem Ex (h:Nat) (F:Nat→Prop) (H:fP) (w:World) (E:HostAt w F h H) (s:H.gW=true) :
  Calls Tryz.prog 249 #[.agg #[.pointer (some ⟨h,0,none⟩)]] w fun e w'=>∃ v,e = .returned v∧kL w w' v 1∧HostAt w' F h H.asked∧Ext F w w':=by
 obtain ⟨x,d⟩:=E
 have b:Below w.heap.size w (w.alloc (.cells #[.pointer (some ⟨h,0,none⟩)] 217)):=(Below.refl _ w).alloc (af _) _
 have i:=d.frame b.size fun k hk=>b.block k (d.lt k hk)
 have u:=i.dp.row
 have M:=d.dp.row.lt
 have y:=fR w (.cells #[.pointer (some ⟨h,0,none⟩)] 217)
 have rc:=ae _ _ 0 _ _ _ y
 have m:x.fail=0:=by rw [d.fail];simpa [fP.gW] using s
 have B:=ab (mo h x _ u (by omega) (by omega))
 have G:=ab b
 have I:=ab i
 have C:=ab m
 have J:Hid (F h):=ab d.foot.1
 clear d i u y b s m
 go_enter Tryz.func249,Tryz.ntmps249
 go_wp2_with fail
 refine B.out.mono ?_
 rintro e w1 ⟨rfl,o,q,j⟩
 rw [C.out]
 have r:=ab (I.out.asked o q j)
 have D:=ab j
 clear o j
 go_wp2
 go_ret
 have l:Below w1.heap.size w1 (w1.alloc (.cells #[.int .i64 (-1)] 191)):=(Below.refl _ w1).alloc (af _) _
 refine ⟨_,rfl,⟨_,rfl,dK _,?_⟩,⟨_,r.out.frame l.size fun k hk=>l.block k (r.out.lt k hk)⟩,?_⟩
 ·have h1:=fR w1 (.cells #[.int .i64 (-1)] 191)
  rw [q,aw] at h1
  rw [h1]
  rfl
 ·exact ((Ext.fT G.out).trans (D.out.mono fun k e=>by rw [e];exact J.out)).trans (Ext.fT l)
def Ij (w:World) (F:Nat→Prop) (h:Nat) (x:HV) (H:fP) (k:Nat) (wr:World):Prop :=
 gT wr F h x {H.asked with dp:=H.dp.stop,held:=applySel (fun _=>true) 0 (H.late.take k) H.held}∧Ext F w wr∧wr.heap[w.heap.size]?=some (.cells #[.pointer (some ⟨h,0,none⟩)] 217 (0,0))
theorem CD (h:Nat) (F:Nat→Prop) (H:fP) (w:World) (hh:HostAt w F h H) (hf:H.gW=false) (b0 : -1≤H.fail∧H.fail≤9223372036854775807) (c9:H.late.length≤1000000000) (a1:∀ x∈H.late,x.2<H.held.length) (_hhl:H.held.length≤1000) :
  Calls Tryz.prog 249 #[.agg #[.pointer (some ⟨h,0,none⟩)]] w fun e w'=>e = .returned .nilIface∧HostAt w' F h H.flush.1∧Ext F w w':=by
 obtain ⟨x,J⟩:=hh
 have Q:Below w.heap.size w (w.alloc (.cells #[.pointer (some ⟨h,0,none⟩)] 217)):=(Below.refl _ w).alloc (af _) _
 have S:=J.frame Q.size fun k hk=>Q.block k (J.lt k hk)
 have H0:=S.dp.row
 have U:=J.dp.row.lt
 have R0:=fR w (.cells #[.pointer (some ⟨h,0,none⟩)] 217)
 have rc:=ae _ _ 0 _ _ _ R0
 have a2:decide (x.fail=0)=false:=by rw [J.fail];exact hf
 have a3:=ab (mo h x _ H0 (by rw [J.fail];omega) (by rw [J.fail];omega))
 have HB:=ab Q
 have HX:=ab S
 have b2:=ab a2
 have a4:=ab hf
 have HF:Hid (F h):=ab J.foot.1
 have b3:=ab R0
 have b4:=ab a1
 have a5:w.heap.size≠h:=by omega
 clear J S H0 R0 Q hf a2 b0 a1
 go_enter Tryz.func249,Tryz.ntmps249
 go_wp2_with fail
 refine a3.out.mono ?_
 rintro e w1 ⟨rfl,a6,a7,o⟩
 rw [b2.out]
 have q:=ab (HX.out.asked a6 a7 o)
 have b5:Hid (Ext F w w1):=ab ((Ext.fT HB.out).trans (o.mono fun k e=>by rw [e];exact HF.out))
 have V:=ab (o.at a5 b3.out)
 clear a6 o a7 rc a3
 have rc:=ae _ _ 0 _ _ _ V.out
 have b6:=fO V.out
 obtain ⟨B,o⟩:∃ B:HV,B = {x with fail:=if x.fail<0 then x.fail else x.fail-1} := ⟨_,rfl⟩
 rw [←o] at q
 clear o
 have a9:=ab (oA h B w1 q.out.dp.row (by have:=q.out.dp.lb;have:=q.out.dp.left;omega) (by have:=q.out.dp.lb;have:=q.out.dp.left;omega))
 go_wp2_with fail
 refine a9.out.mono ?_
 rintro e w2 ⟨rfl,ba,bb,R⟩
 have M:=ab (q.out.DZ ba bb R)
 have bc:Hid (Ext F w w2):=ab (b5.out.trans (R.mono fun k e=>by rw [e];exact HF.out))
 have W:=ab (R.at a5 V.out)
 have be:Hid (B.stop.dead=H.dp.stop.dead):=ab M.out.dp.dead
 clear ba bb R rc b6 a9
 cases hdd:B.stop.dead with
 | true =>
  go_wp2
  go_ret
  refine ⟨rfl,⟨B.stop,?_⟩,bc.out⟩
  have e:H.flush.1 = {H.asked with dp:=H.dp.stop} := by
   unfold fP.flush
   rw [au (by rw [a4.out];decide),aD (by rw [←be.out,hdd])]
  rw [e]
  exact M.out
 | false =>
  have e:H.flush.1 = {H.asked with dp:=H.dp.stop,held:=applySel (fun _=>true) 0 H.late H.held,late:=[]} := by
   unfold fP.flush
   rw [au (by rw [a4.out];decide),au (by rw [←be.out,hdd];decide)]
  have b7:=ab e
  clear e
  have d:=M.out.dp.row
  unfold HostIs HV.cells at d
  obtain ⟨la,bz,X,da,-⟩:=M.out.late.get
  have bi:=ab X
  rw [X] at d
  have ap:H.asked.late.length=H.late.length:=rfl
  rw [ap] at d
  have c2:=ae _ _ 2 _ _ _ d
  have f2:=aj _ _ 2 _ _ d
  have rc:=ae _ _ 0 _ _ _ W.out
  have b8:=fO d
  have bD:=fO W.out
  clear d X
  go_wp2
  have av:Hid (Ij w F h B.stop H 0 w2):=ab ⟨M.out,bc.out,W.out⟩
  clear c2 f2 rc b8 bD
  go_loopw [20] (fun i wr=>∃ k:Nat,k≤H.late.length∧i = .int .i64 (k:Int)∧Ij w F h B.stop H k wr) (fun i _=>H.late.length-(intOf i).toNat)
  case atStart=>exact ⟨0,aM _,rfl,av.out⟩
  case round =>
   obtain ⟨k,hk,rfl,hrel⟩:=hrel
   obtain ⟨N,bk,D⟩:=hrel
   have l:=ab N
   have bl:=ab bk
   have bo:=ab D
   have d:=N.dp.row
   unfold HostIs HV.cells at d
   have rc:wr.cell? ⟨w.heap.size,0,none⟩=some (.pointer (some ⟨h,0,none⟩)):=ae _ _ 0 _ _ _ D
   have bH:=fO D
   have ca:=fO d
   by_cases U:k<H.late.length
   ·obtain ⟨b,hb⟩:∃ b,b=H.late[k]:=⟨_,rfl⟩
    have Y:H.late[k]?=some b:=by rw [hb];exact ay U
    have Z:b.2<H.held.length:=b4.out b (by rw [hb];exact cD U)
    obtain ⟨dc,aE,aa,-,ag⟩:=N.late.get
    obtain ⟨g0,off,u,rfl,d0,d1,G⟩:=ag k b Y
    have e1:Value.slice la H.asked.late.length bz = .slice (some ⟨g0,off,none⟩) H.late.length aE:=bi.out.symm.trans aa
    obtain ⟨rfl,-,rfl⟩:=Value.slice.inj e1
    have hlen:(applySel (fun _=>true) 0 (H.late.take k) H.held).length=H.held.length:=ka _ _ _ _
    obtain ⟨gs,os,cap,u0,ak,s0,sf,⟨Cg,dk,al⟩,dl⟩:=N.held.store (n:=b.2) (by show _<(applySel (fun _=>true) 0 (H.late.take k) H.held).length;rw [hlen];exact Z)
    have am:B.stop.held = .slice (some ⟨gs,os,none⟩) H.held.length cap:=by rw [←hlen];exact ak
    obtain ⟨r,y,bM,-,-⟩:=G.1.opened
    subst bM
    rw [am] at d
    have c0:wr.cell? ⟨h,0,none⟩=some (.slice (some ⟨gs,os,none⟩) H.held.length cap):=ae _ _ 0 _ _ _ d
    have ce:=fU d0
    have bN:=fU s0
    obtain ⟨m,bn⟩:=b
    simp only at Z d0 d1 s0 sf G
    have ci:gs≠w.heap.size:=fun e=>by
     rw [e,D] at al
     cases al
    have g1:(k:Int)<H.late.length:=by omega
    have g2:(bn:Int)<H.held.length:=by omega
    have bO:=ab G
    have cl:=ab ak
    have co:=ab Y
    have bP:=ab hlen
    have cp:=ab Z
    clear N bk D d hb Y ag aa e1 hlen ak am G al
    go_wp2
    have E:Hid (Below wr.heap.size wr (wr.alloc (.cells #[.int .i64 (bn:Int),.slice r m.length y] 157))):=ab ((Below.refl _ wr).alloc (af _) _)
    have I:=fR wr (.cells #[.int .i64 (bn:Int),.slice r m.length y] 157)
    have cq:=gC (.cells #[.int .i64 (bn:Int),.slice r m.length y] 157) rc
    have cr:=gC (.cells #[.int .i64 (bn:Int),.slice r m.length y] 157) c0
    have br:=gC (.cells #[.int .i64 (bn:Int),.slice r m.length y] 157) s0
    have cs:(wr.alloc (.cells #[.int .i64 (bn:Int),.slice r m.length y] 157)).frozen? ⟨gs,os+bn,none⟩=false:=(cT (w:=wr) (a:=⟨gs,os+bn,none⟩) (heap_alloc_old wr _ bN)).trans sf
    obtain ⟨O,bs⟩:∃ O,O=wr.alloc (.cells #[.int .i64 (bn:Int),.slice r m.length y] 157):=⟨_,rfl⟩
    rw [←bs] at E I cq cr br cs⊢
    have dn:=ab I
    have n0:O.cell? ⟨wr.heap.size,0,none⟩=some (.int .i64 (bn:Int)):=ae _ _ 0 _ _ _ I
    have n1:O.cell? ⟨wr.heap.size,1,none⟩=some (.slice r m.length y):=ae _ _ 1 _ _ _ I
    have bt:=ab (l.out.frame E.out.size fun k hk=>E.out.block k (l.out.lt k hk))
    have ct:=ab (bl.out.trans (Ext.fT E.out))
    have cu:=ab (fQ E.out (fO bo.out) bo.out)
    have ds:gs<O.heap.size:=fU br
    have dv:gs≠wr.heap.size:=by omega
    clear bs rc c0 s0 sf d0 d1 bH ca ce
    go_region
    go_wp2
    have bS:=bt.out.DO (w':=O.setCell ⟨gs,os+bn,none⟩ (.slice r m.length y)) (F':=F) (n:=bn) (s:=m) (u := .slice r m.length y) cl.out (by show bn<(applySel (fun _=>true) 0 (H.late.take k) H.held).length;rw [bP.out];exact cp.out)
     (bO.out.gr fun j C fz hj _=>E.out.block j (fO hj)) (fun _ h=>h) bt.out.lt rfl
    obtain ⟨q1,q2,q3⟩:=bS
    have cv:applySel (fun _=>true) 0 (H.late.take (k+1)) H.held=(applySel (fun _=>true) 0 (H.late.take k) H.held).set bn m:=by
     rw [mD _ _ co.out,oH]
     rfl
    refine ⟨⟨k+1,by omega,by go_num,?_,(ct.out.trans q3).drew,?_⟩,by simp [intOf];omega⟩
    ·have q4:=q1.frame (w':=(O.setCell ⟨gs,os+bn,none⟩ (.slice r m.length y)).drew) (af _) (fun _ _=>rfl)
     rw [cv]
     exact q4
    ·exact (Below.heap_setCell O ⟨gs,os+bn,none⟩ _ _ (dx ci)).trans cu.out
   ·obtain rfl:k=H.late.length:=by omega
    have g1:¬(H.late.length:Int)<H.late.length:=by omega
    rw [bi.out] at d
    have c2:=ae _ _ 2 _ _ _ d
    have f2:=aj _ _ 2 _ _ d
    clear d D
    go_wp2
    go_ret
    have bX:=l.out.IZ (w1:=wr.setCell ⟨h,2,none⟩ (.slice none 0 0)) (x' := {B.stop with late := .slice none 0 0}) (H' := {H.asked with dp:=H.dp.stop,held:=applySel (fun _=>true) 0 H.late H.held,late:=[]})
     (heap_setCell _ _ 2 _ l.out.dp.row) (size_setCell _ _ _) ((Ext.refl _ wr).setCell _ _ (.inl rfl)) ⟨rfl,rfl,rfl,rfl,rfl⟩ ⟨by rw [bC],rfl,rfl,rfl,rfl⟩ ⟨l.out.dp.left,l.out.dp.dead,l.out.fail,l.out.writes⟩ l.out.dp.lb (LateAt.nil _ _)
    rw [b7.out]
    exact ⟨rfl,⟨_,bX⟩,bl.out.setCell _ _ (.inl HF.out)⟩
end Go.Proofs.YtkkfmkhbdoeglabGreatDoor
namespace Go.Proofs.YtkkfmkhbdoeglabGreatDoor
open Go.RowKit Go.Shelf
def ox (l:List Int) (t:Nat):Int:=if t<l.length then min (max (l.getD t 0) 0) 40 else 40
def roomN (l:List Int):Nat→Int
 | 0=>ox l 0
 | 1=>ox l 1
 | _=>ox l 2
theorem oI {w w':World} {v:Value} (h:w.grownBy w' v.ownBlock):Ext (fun k=>v.ownBlock=some k) w w':=⟨h.os,h.tape,h.output,h.size,fun k hk hs=>h.block k hk fun e=>hs e.symm⟩
theorem RowsAt.push {w d:World} {F F7:Nat→Prop} {v v7 u:Value} {vals:List Value} {rows:List (List UInt8)} {s:List UInt8} (h1:OwnS w 0 1 v rows.length vals) (h2:CellsOf w v 112) (h4:∀ (i:Nat) (b:List UInt8),rows[i]?=some b→∃ u,vals[i]?=some u∧jn w F u b)
  (y:Ext (fun k=>v.ownBlock=some k) w d) (l:OwnS d 0 1 v7 (rows.length+1) (vals++[u])) (m:CellsOf d v7 112) (hF:∀ k,F k→F7 k) (h7:∀ k,v7.ownBlock=some k→F7 k) (hu:jn d F7 u s):RowsAt d F7 v7 (rows++[s]):=by
 have o:vals.length=rows.length:=by have:=h1.1;omega
 refine ⟨vals++[u],by rw [aq];exact l,m,h7,fun i b j => ?_⟩
 by_cases q:i<rows.length
 ·rw [cG q] at j
  obtain ⟨v0,B,r⟩:=h4 i b j
  refine ⟨v0,by rw [cG (by omega)];exact B,(r.gr fun k C fz hk _=>y.block k (fO hk) fun e => ?_).mono hF⟩
  obtain ⟨E,D,x⟩:=h2 k e
  rw [hk] at x
  cases x
 ·have:i=rows.length:=by
   have:=(aF.1 j).1
   simp at this
   omega
  subst this
  rw [cE (af _),ef] at j
  cases j
  exact ⟨u,by rw [cE (by omega),o,ef];rfl,hu⟩
theorem wT (w:World) (u:Value):fW (w.alloc (.cells #[u] 112)) (.slice (some ⟨w.heap.size,0,none⟩) 1 1) 1 1 [u]:=by
 refine ⟨rfl,_,1,rfl,af _,fun i b=>⟨_,0,rfl,?_⟩⟩
 obtain rfl:i=0:=by simp at b;omega
 rw [bG,lY]
 rfl
theorem AF:(Tryz.prog.info? 112).map (fun i=>(i.zero,i.size,i.bytes))=some (some (.slice none 0 0),1,24):=by kernel_rfl
def yp (b d:Value) (r:Nat) (r0 r1 r2:Int):HV:=⟨b,d,.slice none 0 0,-1,-1,false,0,r0,r1,r2,r,.slice none 0 0⟩
def xV (w:World) (i:Nat) (wr:World):Prop:=∃ b d,HostIs wr (w.heap.size+1) (yp b d w.heap.size 0 0 0)∧RowsAt wr (fun k=>w.heap.size+2≤k∧k<wr.heap.size) b (List.replicate i iH)∧RowsAt wr (fun k=>w.heap.size+2≤k∧k<wr.heap.size) d (List.replicate i iH)∧
 (∀ k,b.ownBlock=some k→d.ownBlock≠some k)∧Below w.heap.size w wr∧TabAt wr w.heap.size []
theorem xS:(madeCells #[Value.int .u8 0] 64)=(u8s iH).toArray:=by
 apply Array.toList_inj.1
 have e:(madeCells #[Value.int .u8 0] 64).toList=List.replicate 64 (Value.int .u8 0):=ez _ _
 rw [e]
 unfold iH u8s
 rw [List.map_replicate]
 rfl
theorem Gg {w wr d w8:World} {i:Nat} {m r v7:Value} {vals C:List Value} {rows orows:List (List UInt8)} (J:Below w.heap.size w wr) (hw:w.heap.size+2≤wr.heap.size) (x:d.heap[w.heap.size+1]?=some (.cells C.toArray 125 (0,0)))
  (m1:OwnS wr 0 1 m rows.length vals) (m2:CellsOf wr m 112) (m3:∀ k,m.ownBlock=some k→w.heap.size+2≤k∧k<wr.heap.size) (m4:∀ (i:Nat) (b:List UInt8),rows[i]?=some b→∃ u,vals[i]?=some u∧jn wr (fun k=>w.heap.size+2≤k∧k<wr.heap.size) u b)
  (y:RowsAt wr (fun k=>w.heap.size+2≤k∧k<wr.heap.size) r orows) (ha:∀ k,m.ownBlock=some k→r.ownBlock≠some k) (tab:TabAt wr w.heap.size [])
  (o:Ext (fun k=>m.ownBlock=some k) wr d) (q:d.heap[wr.heap.size]?=some (.cells (madeCells #[.int .u8 0] 64) 5 (0,0))) (B:OwnS d 0 1 v7 (rows.length+1) (vals++[.slice (some ⟨wr.heap.size,0,none⟩) 64 64])) (s:CellsOf d v7 112) (F:∀ b,v7.ownBlock=some b→m.ownBlock=some b∨wr.heap.size≤b) (he:w8=d.setCell ⟨w.heap.size+1,i,none⟩ v7) :
  RowsAt w8 (fun k=>w.heap.size+2≤k∧k<w8.heap.size) v7 (rows++[iH])∧RowsAt w8 (fun k=>w.heap.size+2≤k∧k<w8.heap.size) r orows∧(∀ k,v7.ownBlock=some k→r.ownBlock≠some k)∧Below w.heap.size w w8∧TabAt w8 w.heap.size []∧w8.heap[w.heap.size+1]?=some (.cells (C.toArray.setIfInBounds i v7) 125 (0,0))∧wr.heap.size≤w8.heap.size:=by
 have O:w8.heap.size=d.heap.size:=by rw [he,size_setCell]
 have Q:=o.size
 have l:∀ k,k≠w.heap.size+1→w8.heap[k]?=d.heap[k]?:=fun k hk=>by rw [he];exact Below.heap_setCell d ⟨w.heap.size+1,i,none⟩ v7 k hk
 have D:∀ b,v7.ownBlock=some b→w.heap.size+2≤b∧b<d.heap.size:=fun b e=>by
  refine ⟨(F b e).elim (fun h=>(m3 b h).1) (fun h=>by omega),?_⟩
  obtain ⟨C,fz,M⟩:=s b e
  exact fO M
 have E:=fO q
 have hu:jn d (fun k=>w.heap.size+2≤k∧k<d.heap.size) (.slice (some ⟨wr.heap.size,0,none⟩) 64 64) iH:=by
  rw [xS] at q
  exact jn.C3 q ⟨hw,E⟩ (by decide)
 have h1:=RowsAt.push (F7:=fun k=>w.heap.size+2≤k∧k<d.heap.size) m1 m2 m4 o B s (fun k hk=>⟨hk.1,by omega⟩) D hu
 refine ⟨(h1.gr (by omega) fun k C t fz hk _ hF=>l k (by have:=hF.1;omega)).mono fun k hk=>⟨hk.1,by omega⟩,?_,fun k e G => ?_,?_,tab.gr ((l _ (by omega)).trans (o.block _ (by omega) fun e=>by have:=m3 _ e;omega)),?_,by omega⟩
 ·have h2:=y.tD (w':=w8) (by omega) (fun k e hk=>(l k (by obtain ⟨_,_,_,h3,_⟩:=y;have:=h3 k e;omega)).trans (o.block k hk fun N=>ha k N e)) (fun k C fz hk hF=>(l k (by have:=hF.1;omega)).trans (o.block k (fO hk) fun e=>by
   obtain ⟨S,R,I⟩:=m2 k e
   rw [hk] at I
   cases I))
  exact h2.mono fun k hk=>⟨hk.1,by omega⟩
 ·rcases F k e with h | h
  ·exact ha k h G
  ·obtain ⟨_,_,_,h3,_⟩:=y
   have:=h3 k G
   omega
 ·rw [he]
  exact (J.trans (o.below (by omega) fun j U e=>by have:=m3 j e;omega)).setCell (p:=⟨w.heap.size+1,i,none⟩) (by simp) v7
 ·rw [he]
  exact heap_setCell _ _ i v7 x
theorem RowsAt.nil (w:World) (F:Nat→Prop):RowsAt w F (.slice none 0 0) []:=⟨[],OwnS.nil _ _ _,CellsOf.nil _ _,fun k e=>by simp [Value.ownBlock] at e,fun i b h=>by simp at h⟩
def rr (l:List Int) (k:Nat) (v:Int) (t:Nat):Int:=if t<k then ox l t else if t=k then v else 0
theorem zx (l:List Int) (k:Nat) (t:Nat):rr l (k+1) 0 t=rr l k (ox l k) t:=by
 unfold rr
 by_cases h:t<k
 ·rw [aD h,aD (by omega)]
 ·by_cases h2:t=k
  ·subst h2
   rw [au h,aD rfl,aD (by omega)]
  ·rw [au h,au h2,au (by omega),b]
where b {p:Prop} [Decidable p]:(if p then (0:Int) else 0)=0:=by split <;> rfl
def yR (w:World) (n:Nat) (l:List Int) (k:Nat) (v:Int) (wr:World):Prop:=∃ b d,HostIs wr (w.heap.size+1) (yp b d w.heap.size (rr l k v 0) (rr l k v 1) (rr l k v 2))∧RowsAt wr (fun k=>w.heap.size+2≤k∧k<wr.heap.size) b (List.replicate n iH)∧RowsAt wr (fun k=>w.heap.size+2≤k∧k<wr.heap.size) d (List.replicate n iH)∧
 (∀ k,b.ownBlock=some k→d.ownBlock≠some k)∧Below w.heap.size w wr∧TabAt wr w.heap.size []
theorem xV.Jp {w wr:World} {n:Nat} {l:List Int} (h:xV w n wr):yR w n l 0 0 wr:=by
 obtain ⟨b,d,h1,h2⟩:=h
 exact ⟨b,d,h1,h2⟩
theorem yR.next {w wr:World} {n k:Nat} {l:List Int} (h:yR w n l k (ox l k) wr):yR w n l (k+1) 0 wr:=by
 obtain ⟨b,d,h1,h2⟩:=h
 exact ⟨b,d,by rw [zx,zx,zx];exact h1,h2⟩
theorem yR.cell {w wr:World} {n k:Nat} {l:List Int} {v:Int} (h:yR w n l k v wr) (hk:k<3):wr.cell? ⟨w.heap.size+1,7+k,none⟩=some (.int .i64 v)∧wr.frozen? ⟨w.heap.size+1,7+k,none⟩=false:=by
 obtain ⟨b,d,h1,-⟩:=h
 refine ⟨?_,aj _ _ _ _ _ h1⟩
 obtain rfl | rfl | rfl:k=0∨k=1∨k=2:=by omega
 ·exact ae _ _ 7 _ _ _ h1
 ·exact ae _ _ 8 _ _ _ h1
 ·exact ae _ _ 9 _ _ _ h1
theorem yR.set {w wr:World} {n k:Nat} {l:List Int} {v:Int} (h:yR w n l k v wr) (hk:k<3) (v':Int):yR w n l k v' (wr.setCell ⟨w.heap.size+1,7+k,none⟩ (.int .i64 v')):=by
 obtain ⟨i,m,h1,h2,h3,h4,h5,h6⟩:=h
 have b:∀ j,j≠w.heap.size+1→(wr.setCell ⟨w.heap.size+1,7+k,none⟩ (.int .i64 v')).heap[j]?=wr.heap[j]?:=fun j o=>Below.heap_setCell wr ⟨w.heap.size+1,7+k,none⟩ _ j o
 have d:(wr.setCell ⟨w.heap.size+1,7+k,none⟩ (.int .i64 v')).heap.size=wr.heap.size:=size_setCell _ _ _
 refine ⟨i,m,?_,?_,?_,h4,h5.setCell (p:=⟨w.heap.size+1,7+k,none⟩) (by simp) _,h6.gr (b _ (by omega))⟩
 ·have:=heap_setCell _ _ (7+k) (.int .i64 v') h1
  obtain rfl | rfl | rfl:k=0∨k=1∨k=2:=by omega
  all_goals exact this
 ·rw [d]
  exact h2.gr (by omega) fun k C t fz hk _ hF=>b k (by have:=hF.1;omega)
 ·rw [d]
  exact h3.gr (by omega) fun k C t fz hk _ hF=>b k (by have:=hF.1;omega)
theorem yR.drew {w wr:World} {n k:Nat} {l:List Int} {v:Int} (h:yR w n l k v wr):yR w n l k v wr.drew:=by
 obtain ⟨b,d,h1,h2,h3,h4,h5,h6⟩:=h
 exact ⟨b,d,h1,h2,h3,h4,h5.drew,h6⟩
theorem yR.host {w wr:World} {n:Nat} {l:List Int} (h:yR w n l 3 0 wr):HostAt wr (fun k=>w.heap.size≤k∧k<wr.heap.size) (w.heap.size+1) (mZ n (roomN l))∧Below w.heap.size w wr:=by
 obtain ⟨d,i,h1,h2,h3,h4,h5,h6⟩:=h
 have b:=fO h1
 refine ⟨⟨_,⟨h1,rfl,rfl,?_,h6,OwnS.nil _ _ _,CellsOf.nil _ _,⟨aM _,aM _⟩,⟨by show -1≤(-1:Int);omega,by show (-1:Int)≤_;omega⟩⟩,rfl,rfl,h2.mono fun k hk=>⟨by omega,hk.2⟩,h3.mono fun k hk=>⟨by omega,hk.2⟩,LateAt.nil _ _,h4,⟨⟨by omega,b⟩,⟨af _,show w.heap.size<_ by omega⟩,fun k e=>by simp [yp,Value.ownBlock] at e⟩,fun k hk=>hk.2⟩,h5⟩
 funext t
 match t with
 | 0=>rfl
 | 1=>rfl
 | t+2=>rfl
theorem Ba (r:Int) (l:List Int) (rv:Value) (w:World) (hr:fW w rv 1 l.length (l.map fun i => .int .i64 i)) (n:Nat) (hn:(n:Int)=min (max r 32) 128) :
  Calls Tryz.prog 59 #[.int .i64 r,rv] w fun e w'=>∃ h,e = .returned (.pointer (some ⟨h,0,none⟩))∧HostAt w' (fun k=>w.heap.size≤k∧k<w'.heap.size) h (mZ n (roomN l))∧Below w.heap.size w w':=by
 have e8 := @run_makeMap Tryz.prog
 have HN:=ab hn
 have e9:32≤n∧n≤128:=by omega
 have HR:=ab hr
 obtain ⟨-,ra,rc,rfl,fa,-⟩:=hr
 clear hn
 go_enter Tryz.func59,Tryz.ntmps59
 go_wp2
 rw [←HN.out]
 have ce:Below w.heap.size w ((w.alloc (.map #[] 0)).alloc (.cells #[.slice none 0 0,.slice none 0 0,.slice none 0 0,.int .i64 (-1),.int .i64 (-1),.bool false,.int .i64 0,.int .i64 0,.int .i64 0,.int .i64 0,.map (some w.heap.size),.slice none 0 0] 125)):=((Below.refl _ w).alloc (af _) _).alloc (by simp) _
 have R1:=fR (w.alloc (.map #[] 0)) (.cells #[.slice none 0 0,.slice none 0 0,.slice none 0 0,.int .i64 (-1),.int .i64 (-1),.bool false,.int .i64 0,.int .i64 0,.int .i64 0,.int .i64 0,.map (some w.heap.size),.slice none 0 0] 125)
 rw [aw] at R1
 have T0:=(TabAt.new w).gr (heap_alloc_old (w.alloc (.map #[] 0)) (.cells #[.slice none 0 0,.slice none 0 0,.slice none 0 0,.int .i64 (-1),.int .i64 (-1),.bool false,.int .i64 0,.int .i64 0,.int .i64 0,.int .i64 0,.map (some w.heap.size),.slice none 0 0] 125) (by simp))
 have a3:Hid (xV w 0 ((w.alloc (.map #[] 0)).alloc (.cells #[.slice none 0 0,.slice none 0 0,.slice none 0 0,.int .i64 (-1),.int .i64 (-1),.bool false,.int .i64 0,.int .i64 0,.int .i64 0,.int .i64 0,.map (some w.heap.size),.slice none 0 0] 125))):=ab ⟨.slice none 0 0,.slice none 0 0,R1,RowsAt.nil _ _,RowsAt.nil _ _,fun k e=>by simp [Value.ownBlock] at e,ce,T0⟩
 clear ce R1 T0
 have fb:∀ w,(Instr.makeSlice 112 (.int .i64 64) (.int .i64 64)).run Tryz.prog w = .ok (.slice (some ⟨w.heap.size,0,none⟩) 64 64) (w.alloc (.cells (madeCells #[.int .u8 0] 64) 5)):=fun w =>
  run_make_row' 112 5 (.int .u8 0) 1 Tryz.underlying112 (by kernel_rfl) rfl .i64 .i64 64 (by omega) (by omega) w
 go_loopw [13] (fun i wr=>∃ k:Nat,k≤n∧i = .int .i64 (k:Int)∧xV w k wr) (fun i _=>n-(intOf i).toNat)
 case atStart=>exact ⟨0,aM _,rfl,a3.out⟩
 case round =>
  obtain ⟨k,hk,rfl,ci⟩:=hrel
  have X:=ab ci
  obtain ⟨hv,sv,r1,r2,r3,r4,r5,r6⟩:=ci
  have a4:=ab r1
  have d3:=ab r2
  have d4:=ab r3
  have a5:=ab r4
  have a6:=ab r5
  have a7:=ab r6
  have cl:=r5.size
  have I:w.heap.size+2≤wr.heap.size:=fO r1
  unfold HostIs HV.cells yp at r1
  simp only at r1
  have co:=fO r1
  obtain ⟨vals,v1,v2,v3,v4⟩:=r2
  obtain ⟨b7,s1,s2,s3,s4⟩:=r3
  rw [bF] at v1 s1
  obtain ⟨va,vc,rfl⟩:=v1.shape
  obtain ⟨J,M,rfl⟩:=s1.shape
  have c0:wr.cell? ⟨w.heap.size+1,0,none⟩=some (.slice va k vc):=ae _ _ 0 _ _ _ r1
  have cp:=aj _ _ 0 _ _ r1
  have Y:=ab v1
  have Z:=ab v2
  have aa:=ab v3
  have bb:=ab v4
  have bc:=ab s1
  have be:=ab s2
  have bi:=ab s3
  have bk:=ab s4
  have bl:=ab (v2.ne r1 (by decide))
  have bn:=ab (s2.ne r1 (by decide))
  clear r1 r4 r5 r6 v1 v2 v3 v4 s1 s2 s3 s4 a3
  by_cases fc:k<n
  ·have g1:(k:Int)<n:=by omega
   have ag:=fun o N=>ab (Below.drew (Below.al (Below.al (Below.rf wr) o) N))
   have O:=ab (wT (wr.alloc (.cells (madeCells #[.int .u8 0] 64) 5)) (.slice (some ⟨wr.heap.size,0,none⟩) 64 64))
   rw [aw] at O
   have ak:=fun o=>ab (gC o c0)
   have am:=fun o N=>ab (gC N (gC o c0))
   go_wp2
   refine iB (n:=10) (S:=(fun w'=>w'.cell? ⟨w.heap.size+1,0,none⟩=some (.slice va k vc))) (by kernel_rfl) (by kernel_rfl) rfl (by first | exact c0 | exact (ak _).out | exact (am _ _).out) ?_
   intro Q
   simp only [cI,cc,cy,cJ,bA,cd,bf,bu,bT,aO,aX]
   refine wpAnyH_take (i:=0) (v := ?_) rfl (by kernel_rfl) (by kernel_rfl) (by kernel_rfl) (fun _ _ _ h=>h) (Or.inl ⟨by rfl,?_⟩) (by assumption) ?_
   rotate_left 1
   ·(intro w d;(try dsimp only at d);go_simp;(try with_reducible rfl))
   try simp only [Act.put,ah,ai]
   refine wpAnyH_take (i:=1) (v := ?_) rfl (by kernel_rfl) (by kernel_rfl) (by kernel_rfl) (fun _ _ _ h=>h) (Or.inl ⟨by rfl,?_⟩) (by assumption) ?_
   rotate_left 1
   ·(intro w d;(try dsimp only at d);go_simp;(try with_reducible rfl))
   try simp only [Act.put,ah,ai,ao]
   refine wpAnyH_take (i:=2) (v := ?_) rfl (by kernel_rfl) (by kernel_rfl) (by kernel_rfl) (fun _ _ _ h=>h) (Or.inl ⟨by rfl,?_⟩) (by assumption) ?_
   rotate_left 1
   ·(intro w d;(try dsimp only at d);go_simp;(try with_reducible rfl))
   try simp only [Act.put,ah,ai,ao]
   refine wpAnyH_take (i:=3) (v := ?_) rfl (by kernel_rfl) (by kernel_rfl) (by kernel_rfl) (fun _ _ _ h=>h) (Or.inl ⟨by rfl,?_⟩) (by assumption) ?_
   rotate_left 1
   ·(intro w d;(try dsimp only at d);go_simp;(try with_reducible rfl))
   try simp only [Act.put,ah,ai,ao]
   refine wpAnyH_take (i:=4) (v := ?_) rfl (by kernel_rfl) (by kernel_rfl) (by kernel_rfl) (fun _ _ _ h=>h) (Or.inl ⟨by rfl,?_⟩) (by assumption) ?_
   rotate_left 1
   ·(intro w d;(try dsimp only at d);go_simp;(try with_reducible rfl))
   try simp only [Act.put,ah,ai,ao]
   refine wpAnyH_ready (rs:=[5]) (by kernel_rfl) (by simp) ?_
   refine AllReadyH.cons rfl ?_ AllReadyH.nil
   intro m hK'
   go_simp
   refine hK'.out _ _ (by first | exact c0 | exact (ak _).out | exact (am _ _).out) ?_
   clear hK' m
   intro R
   try simp only [ah,ai,ao]
   refine wpAnyH_ready (rs:=[6]) (by kernel_rfl) (by simp) ?_
   refine AllReadyH.cons rfl ?_ AllReadyH.nil
   intro m hK'
   go_simp
   refine hK'.out _ _ (by first | exact c0 | exact (ak _).out | exact (am _ _).out) ?_
   clear hK' m
   intro U
   try simp only [ah,ai,ao]
   refine wpAnyH_ready (rs:=[7]) (by kernel_rfl) (by simp) ?_
   refine AllReadyH.cons rfl ?_ AllReadyH.nil
   intro m hK'
   refine lA rfl (.tmp 19) (.tmp 21) 120 112 1 24 (.slice none 0 0) Tryz.underlying120 AF rfl (by decide) rfl 0 (.slice va k vc) k vals rfl (by exact Y.out.below (ag _ _).out) (by exact Z.out.frame fun b _ hb=>(ag _ _).out.block b hb) 1 [.slice (some ⟨wr.heap.size,0,none⟩) 64 64] (by exact O.out) (by intro u hu;simp at hu;rw [hu];rfl) (by omega) (by omega) (aM _) ?_;intro v7 w7 s bo br cq;obtain ⟨bs,bt,rfl⟩:=s.shape;have bv:=ab bo;have cr:=ab s;have cs:=ab br;have ct:=ab cq;have bw:=iN bo bl.out (fX _ _ (fX _ _ a4.out));have ap:=ab bw;have fB:w7.cell? ⟨w.heap.size+1,0,none⟩=some (.slice va k vc):=ae _ _ 0 _ _ _ bw;clear s bo br cq bw;refine hK'.out _ _ fB ?_
   clear hK' m
   intro bx
   try simp only [Act.put,ah,ai,ao]
   refine wpAnyH_take (i:=8) (v := ?_) rfl (by kernel_rfl) (by kernel_rfl) (by kernel_rfl) (fun _ _ _ h=>h) (Or.inl ⟨by rfl,?_⟩) (by assumption) ?_
   rotate_left 1
   ·(intro w d;(try dsimp only at d);go_simp;(try with_reducible rfl))
   try simp only [Act.put,ah,ai,ao]
   refine wpAnyH_take (i:=9) (v := ?_) rfl (by kernel_rfl) (by kernel_rfl) (by kernel_rfl) (fun _ _ _ h=>h) (Or.inl ⟨by rfl,?_⟩) (by assumption) ?_
   rotate_left 1
   ·(intro w d;(try dsimp only at d);go_simp;(try with_reducible rfl))
   try simp only [Act.put,ah,ai,ao]
   refine wpAnyH_done (by kernel_rfl) ?_ _
   show Oper.wp _ _ _ _ _ _
   have d7:=aj _ _ 0 _ _ ap.out
   have d8:=fO ap.out
   go_wp2_with fail
   generalize cu:w7.setCell ⟨w.heap.size+1,0,none⟩ (.slice bs (k+1) bt)=w8
   have B:∀ x,(Value.slice va k vc).ownBlock=some x→x<wr.heap.size:=fun x e=>(aa.out x e).2
   have C:=(Ext.fT (S:=fun x=>(Value.slice va k vc).ownBlock=some x) (ag (.cells (madeCells #[.int .u8 0] 64) 5) (.cells #[.slice (some ⟨wr.heap.size,0,none⟩) 64 64] 112)).out).trans (oI bv.out)
   have D:=iN bv.out (b:=wr.heap.size) (fun e=>absurd (B _ e) (dA _)) (fX (wr.alloc (.cells (madeCells #[.int .u8 0] 64) 5)) (.cells #[.slice (some ⟨wr.heap.size,0,none⟩) 64 64] 112) (fR wr (.cells (madeCells #[.int .u8 0] 64) 5)))
   have d9:=Gg (rows:=List.replicate k iH) (orows:=List.replicate k iH) (i:=0) a6.out I ap.out (by rw [bF];exact Y.out) Z.out aa.out bb.out ⟨b7,by rw [bF];exact bc.out,be.out,bi.out,bk.out⟩ a5.out a7.out C D (by rw [bF];exact cr.out) cs.out (fun b e=>(ct.out b e).imp id fun e=>by rw [e];show _≤(World.alloc (World.alloc wr _) _).heap.size;rw [aw,aw];omega) cu.symm
   obtain ⟨n1,n2,n3,n4,n5,n6,n7⟩:=d9
   have q:HostIs w8 (w.heap.size+1) (yp (.slice bs (k+1) bt) (.slice J k M) w.heap.size 0 0 0):=n6
   obtain ⟨bL,s1,s2,s3,s4⟩:=n2
   rw [bF] at s1
   have bM:w.heap.size+2≤w8.heap.size:=by omega
   have d0:w8.cell? ⟨w.heap.size+1,1,none⟩=some (.slice J k M):=ae _ _ 1 _ _ _ q
   have fd:=aj _ _ 1 _ _ q
   have cv:=ab s1
   have cB:=ab s2
   have c1:=ab s3
   have ea:=ab s4
   have J1:=ab n1
   have J3:=ab n3
   have J4:=ab n4
   have J5:=ab n5
   have J6:=ab q
   have ec:=ab (s2.ne q (by decide))
   have ed:=ab bM
   have V:=fun o N=>ab (Below.drew (Below.al (Below.al (Below.rf w8) o) N))
   have av:=ab (wT (w8.alloc (.cells (madeCells #[.int .u8 0] 64) 5)) (.slice (some ⟨w8.heap.size,0,none⟩) 64 64))
   rw [aw] at av
   have bN:=fun o=>ab (gC o d0)
   have bO:=fun o N=>ab (gC N (gC o d0))
   clear s1 s2 s3 s4 n1 n3 n4 n5 n6 q n7 C D bM cu Q R U bx fB d7 d8 c0 cp ak am O ag cl I co bv cr cs ct ap Y Z aa bb bc be bi bk bl bn a4 a5 a6 a7 B
   have fg:=ab (fO J6.out)
   refine iB (n:=10) (S:=(fun w'=>w'.cell? ⟨w.heap.size+1,1,none⟩=some (.slice J k M))) (by kernel_rfl) (by kernel_rfl) rfl (by first | exact d0 | exact (bN _).out | exact (bO _ _).out) ?_
   intro Q
   simp only [cI,cc,cy,cJ,bA,cd,bf,bu,bT,aO,aX]
   refine wpAnyH_take (i:=0) (v := ?_) rfl (by kernel_rfl) (by kernel_rfl) (by kernel_rfl) (fun _ _ _ h=>h) (Or.inl ⟨by rfl,?_⟩) (by assumption) ?_
   rotate_left 1
   ·(intro w d;(try dsimp only at d);go_simp;(try with_reducible rfl))
   try simp only [Act.put,ah,ai]
   refine wpAnyH_take (i:=1) (v := ?_) rfl (by kernel_rfl) (by kernel_rfl) (by kernel_rfl) (fun _ _ _ h=>h) (Or.inl ⟨by rfl,?_⟩) (by assumption) ?_
   rotate_left 1
   ·(intro w d;(try dsimp only at d);go_simp;(try with_reducible rfl))
   try simp only [Act.put,ah,ai,ao]
   refine wpAnyH_take (i:=2) (v := ?_) rfl (by kernel_rfl) (by kernel_rfl) (by kernel_rfl) (fun _ _ _ h=>h) (Or.inl ⟨by rfl,?_⟩) (by assumption) ?_
   rotate_left 1
   ·(intro w d;(try dsimp only at d);go_simp;(try with_reducible rfl))
   try simp only [Act.put,ah,ai,ao]
   refine wpAnyH_take (i:=3) (v := ?_) rfl (by kernel_rfl) (by kernel_rfl) (by kernel_rfl) (fun _ _ _ h=>h) (Or.inl ⟨by rfl,?_⟩) (by assumption) ?_
   rotate_left 1
   ·(intro w d;(try dsimp only at d);go_simp;(try with_reducible rfl))
   try simp only [Act.put,ah,ai,ao]
   refine wpAnyH_take (i:=4) (v := ?_) rfl (by kernel_rfl) (by kernel_rfl) (by kernel_rfl) (fun _ _ _ h=>h) (Or.inl ⟨by rfl,?_⟩) (by assumption) ?_
   rotate_left 1
   ·(intro w d;(try dsimp only at d);go_simp;(try with_reducible rfl))
   try simp only [Act.put,ah,ai,ao]
   refine wpAnyH_ready (rs:=[5]) (by kernel_rfl) (by simp) ?_
   refine AllReadyH.cons rfl ?_ AllReadyH.nil
   intro m hK'
   go_simp
   refine hK'.out _ _ (by first | exact d0 | exact (bN _).out | exact (bO _ _).out) ?_
   clear hK' m
   intro R
   try simp only [ah,ai,ao]
   refine wpAnyH_ready (rs:=[6]) (by kernel_rfl) (by simp) ?_
   refine AllReadyH.cons rfl ?_ AllReadyH.nil
   intro m hK'
   go_simp
   refine hK'.out _ _ (by first | exact d0 | exact (bN _).out | exact (bO _ _).out) ?_
   clear hK' m
   intro U
   try simp only [ah,ai,ao]
   refine wpAnyH_ready (rs:=[7]) (by kernel_rfl) (by simp) ?_
   refine AllReadyH.cons rfl ?_ AllReadyH.nil
   intro m hK'
   refine lA rfl (.tmp 29) (.tmp 31) 120 112 1 24 (.slice none 0 0) Tryz.underlying120 AF rfl (by decide) rfl 0 (.slice J k M) k bL rfl (by exact cv.out.below (V _ _).out) (by exact cB.out.frame fun b _ hb=>(V _ _).out.block b hb) 1 [.slice (some ⟨w8.heap.size,0,none⟩) 64 64] (by exact av.out) (by intro u hu;simp at hu;rw [hu];rfl) (by omega) (by omega) (aM _) ?_;intro v9 w9 y bP bS c2;obtain ⟨c3,c4,rfl⟩:=y.shape;have bX:=ab bP;have c5:=ab y;have c6:=ab bS;have c7:=ab c2;have b0:=iN bP ec.out (fX _ _ (fX _ _ J6.out));have aE:=ab b0;have f0:w9.cell? ⟨w.heap.size+1,1,none⟩=some (.slice J k M):=ae _ _ 1 _ _ _ b0;clear y bP bS c2 b0;refine hK'.out _ _ f0 ?_
   clear hK' m
   intro bx
   try simp only [Act.put,ah,ai,ao]
   refine wpAnyH_take (i:=8) (v := ?_) rfl (by kernel_rfl) (by kernel_rfl) (by kernel_rfl) (fun _ _ _ h=>h) (Or.inl ⟨by rfl,?_⟩) (by assumption) ?_
   rotate_left 1
   ·(intro w d;(try dsimp only at d);go_simp;(try with_reducible rfl))
   try simp only [Act.put,ah,ai,ao]
   refine wpAnyH_take (i:=9) (v := ?_) rfl (by kernel_rfl) (by kernel_rfl) (by kernel_rfl) (fun _ _ _ h=>h) (Or.inl ⟨by rfl,?_⟩) (by assumption) ?_
   rotate_left 1
   ·(intro w d;(try dsimp only at d);go_simp;(try with_reducible rfl))
   try simp only [Act.put,ah,ai,ao]
   refine wpAnyH_done (by kernel_rfl) ?_ _
   show Oper.wp _ _ _ _ _ _
   have el:=aj _ _ 1 _ _ aE.out
   have em:=fO aE.out
   go_wp2_with fail
   generalize b1:w9.setCell ⟨w.heap.size+1,1,none⟩ (.slice c3 (k+1) c4)=b2
   have B:∀ x,(Value.slice J k M).ownBlock=some x→x<w8.heap.size:=fun x e=>(c1.out x e).2
   have C:=(Ext.fT (S:=fun x=>(Value.slice J k M).ownBlock=some x) (V (.cells (madeCells #[.int .u8 0] 64) 5) (.cells #[.slice (some ⟨w8.heap.size,0,none⟩) 64 64] 112)).out).trans (oI bX.out)
   have D:=iN bX.out (b:=w8.heap.size) (fun e=>absurd (B _ e) (dA _)) (fX (w8.alloc (.cells (madeCells #[.int .u8 0] 64) 5)) (.cells #[.slice (some ⟨w8.heap.size,0,none⟩) 64 64] 112) (fR w8 (.cells (madeCells #[.int .u8 0] 64) 5)))
   have en:=Gg (rows:=List.replicate k iH) (orows:=List.replicate k iH++[iH]) (i:=1) J4.out ed.out aE.out (by rw [bF];exact cv.out) cB.out c1.out ea.out J1.out (fun x e e2=>J3.out x e2 e) J5.out C D (by rw [bF];exact c5.out) c6.out (fun b e=>(c7.out b e).imp id fun e=>by rw [e];show _≤(World.alloc (World.alloc w8 _) _).heap.size;rw [aw,aw];omega) b1.symm
   obtain ⟨n1,n2,n3,n4,n5,n6,n7⟩:=en
   have q:HostIs b2 (w.heap.size+1) (yp (.slice bs (k+1) bt) (.slice c3 (k+1) c4) w.heap.size 0 0 0):=n6
   have cb:Hid (xV w (k+1) b2):=ab ⟨_,_,q,by rw [List.replicate_succ'];exact n2,by rw [List.replicate_succ'];exact n1,fun x e e2=>n3 x e2 e,n4,n5⟩
   have fi:Hid (w8.heap.size≤b2.heap.size):=ab n7
   clear C D B n1 n2 n3 n4 n5 n6 q n7 b1 bX c5 c6 c7 aE f0 el em
   go_wp2
   go_roundw
   case rel=>exact ⟨k+1,by omega,rfl,cb.out⟩
   case measure=>simp [intOf];omega
  ·have g1:¬((k:Int)<n):=by omega
   obtain rfl:k=n:=by omega
   have er:Hid (yR w k l 0 0 wr):=ab (xV.Jp (X.out))
   have fk:=a6
   clear a4 d3 d4 a5 a7 Y Z aa bb bc be bi bk bl bn c0 cp cl I co X
   go_wp2
   go_loopw [36] (fun i eC=>∃ j:Nat,j≤3∧i = .int .i64 (j:Int)∧yR w k l j 0 eC) (fun i _=>3-(intOf i).toNat)
   case atStart=>exact ⟨0,aM _,rfl,er.out⟩
   case round =>
    obtain ⟨j,hj,rfl,hR⟩:=hrel
    have b3:=ab hR
    clear hR
    by_cases E:j<3
    ·have g2:(j:Int)<3:=by omega
     have c8:=b3.out.cell E
     have fl:=c8.1
     have fn:=c8.2
     have F:Hid (yR w k l j 40 (wr.setCell ⟨w.heap.size+1,7+j,none⟩ (.int .i64 40))):=ab (b3.out.set E 40)
     have b4:∀ W,yR w k l j (ox l j) W→yR w k l (j+1) 0 W:=fun W h=>h.next
     by_cases a0:j<l.length
     ·have g3:(j:Int)<(l.length:Int):=by omega
      have c9:Below w.heap.size w (wr.setCell ⟨w.heap.size+1,7+j,none⟩ (.int .i64 40)):=by obtain ⟨_,_,_,_,_,_,h5,_⟩:=F.out;exact h5
      have eS:=fW.below HR.out c9
      obtain ⟨-,_,_,e0,-,da⟩:=eS
      injection e0 with e1 e2 e3
      subst e1
      obtain ⟨g,off,rfl,G⟩:=da j (by rw [aG];exact a0)
      rw [ff] at G
      clear da c9 e3
      have b5:=ab (show ox l j=min (max l[j] 0) 40 by unfold ox;rw [aD a0,aN,ay a0];rfl)
      have b6:=(F.out.cell E).1
      have fo:=(F.out.cell E).2
      generalize eT:l[j]=x at G
      go_wp2
      refine iB (n:=11) (S:=(fun w'=>w'.cell? ⟨w.heap.size+1,7+j,none⟩=some (.int .i64 40)∧w'.cell? ⟨g,off+j,none⟩=some (.int .i64 x))) (by kernel_rfl) (by kernel_rfl) rfl (by exact ⟨b6,G⟩) ?_
      intro Q
      simp only [cI,cc,cy,cJ,bA,cd,bf,bu,bT,aO,aX]
      refine wpAnyH_take (i:=0) (v := ?_) rfl (by kernel_rfl) (by kernel_rfl) (by kernel_rfl) (fun _ _ _ h=>h) (Or.inl ⟨by rfl,?_⟩) (by assumption) ?_
      rotate_left 1
      ·(intro w d;(try dsimp only at d);go_simp;(try with_reducible rfl))
      try simp only [Act.put,ah,ai]
      refine wpAnyH_take (i:=1) (v := ?_) rfl (by kernel_rfl) (by kernel_rfl) (by kernel_rfl) (fun _ _ _ h=>h) (Or.inl ⟨by rfl,?_⟩) (by assumption) ?_
      rotate_left 1
      ·(intro w d;(try dsimp only at d);go_simp;(try with_reducible rfl))
      try simp only [Act.put,ah,ai,ao]
      refine wpAnyH_take (i:=2) (v := ?_) rfl (by kernel_rfl) (by kernel_rfl) (by kernel_rfl) (fun _ _ _ h=>h) (Or.inl ⟨by rfl,?_⟩) (by assumption) ?_
      rotate_left 1
      ·(intro w d;(try dsimp only at d);go_simp;(try with_reducible rfl))
      try simp only [Act.put,ah,ai,ao]
      refine wpAnyH_take (i:=3) (v := ?_) rfl (by kernel_rfl) (by kernel_rfl) (by kernel_rfl) (fun _ _ _ h=>h) (Or.inl ⟨by rfl,?_⟩) (by assumption) ?_
      rotate_left 1
      ·(intro w d;(try dsimp only at d);go_simp;(try with_reducible rfl))
      try simp only [Act.put,ah,ai,ao]
      refine wpAnyH_take (i:=4) (v := ?_) rfl (by kernel_rfl) (by kernel_rfl) (by kernel_rfl) (fun _ _ _ h=>h) (Or.inl ⟨by rfl,?_⟩) (by assumption) ?_
      rotate_left 1
      ·(intro w d;(try dsimp only at d);go_simp;(try with_reducible rfl))
      try simp only [Act.put,ah,ai,ao]
      refine wpAnyH_take (i:=5) (v := ?_) rfl (by kernel_rfl) (by kernel_rfl) (by kernel_rfl) (fun _ _ _ h=>h) (Or.inl ⟨by rfl,?_⟩) (by assumption) ?_
      rotate_left 1
      ·(intro w d;(try dsimp only at d);go_simp;(try with_reducible rfl))
      try simp only [Act.put,ah,ai,ao]
      refine wpAnyH_take (i:=8) (v := ?_) rfl (by kernel_rfl) (by kernel_rfl) (by kernel_rfl) (fun _ _ _ h=>h) (Or.inl ⟨by rfl,?_⟩) (by assumption) ?_
      rotate_left 1
      ·(intro w d;(try dsimp only at d);go_simp;(try with_reducible rfl))
      try simp only [Act.put,ah,ai,ao]
      refine wpAnyH_take (i:=9) (v := ?_) rfl (by kernel_rfl) (by kernel_rfl) (by kernel_rfl) (fun _ _ _ h=>h) (Or.inl ⟨by rfl,?_⟩) (by assumption) ?_
      rotate_left 1
      ·(intro w d;(try dsimp only at d);go_simp;(try with_reducible rfl))
      try simp only [Act.put,ah,ai,ao]
      refine wpAnyH_ready (rs:=[6]) (by kernel_rfl) (by simp) ?_
      refine AllReadyH.cons rfl ?_ AllReadyH.nil
      intro m hK'
      go_simp
      refine hK'.out _ _ (by exact ⟨b6,G⟩) ?_
      clear hK' m
      intro R
      try simp only [ah,ai,ao]
      refine wpAnyH_ready (rs:=[7]) (by kernel_rfl) (by simp) ?_
      refine AllReadyH.cons rfl ?_ AllReadyH.nil
      intro m hK'
      go_simp
      refine hK'.out _ _ (by exact ⟨b6,G⟩) ?_
      clear hK' m
      intro U
      try simp only [ah,ai,ao]
      refine wpAnyH_take (i:=10) (v := ?_) rfl (by kernel_rfl) (by kernel_rfl) (by kernel_rfl) (fun _ _ _ h=>h) (Or.inl ⟨by rfl,?_⟩) (by assumption) ?_
      rotate_left 1
      ·(intro w d;(try dsimp only at d);go_simp;(try with_reducible rfl))
      try simp only [Act.put,ah,ai,ao]
      refine wpAnyH_done (by kernel_rfl) ?_ _
      show Oper.wp _ _ _ _ _ _
      go_wp2
      refine ⟨⟨j+1,by omega,rfl,b4 _ ?_⟩,by simp [intOf];omega⟩
      subst eT
      rw [b5.out]
      exact (F.out.set E _).drew
     ·have g3:¬((j:Int)<(l.length:Int)):=by omega
      have b5:ox l j=40:=by unfold ox;rw [au a0]
      go_wp2
      refine ⟨⟨j+1,by omega,rfl,b4 _ (by rw [b5];exact F.out)⟩,by simp [intOf];omega⟩
    ·have g2:¬((j:Int)<3):=by omega
     obtain rfl:j=3:=by omega
     go_wp2
     refine aI (v := .pointer (some ⟨w.heap.size+1,0,none⟩)) (by simp [results]) rfl ⟨_,rfl,b3.out.host⟩
end Go.Proofs.YtkkfmkhbdoeglabGreatDoor
namespace Go.Proofs.YtkkfmkhbdoeglabGreatDoor
def inTab (k:K):Prop:=0≤k.1∧k.1<3
instance (k:K):Decidable (inTab k):=inferInstanceAs (Decidable (_∧_))
def tS (room:Nat→Int) (S:List E) (x:E):List E :=
 if inTab x.1 then (if (jB x.1 S).isSome || decide ((countS x.1.1 S:Int)<room x.1.1.toNat) then ke x.1 x.2 S else S) else S
theorem qv (l:List Int) (t:Nat):0≤ox l t∧ox l t≤40:=by
 unfold ox
 split <;> omega
theorem kJ (l:List Int) (t:Nat):0≤roomN l t∧roomN l t≤40:=by
 match t with
 | 0=>exact qv l 0
 | 1=>exact qv l 1
 | _+2=>exact qv l 2
structure ThereOk (room:Nat→Int) (P:E→Prop) (S:List E):Prop where
 sorted:SortedE S
 tab:∀ x∈S,inTab x.1
 room:∀ t:Nat,t<3→(countS (t:Int) S:Int)≤room t
 mem:∀ x∈S,P x
theorem Cj {S:List E} {k:K} {v:List UInt8} (b:SortedE S) (hk:(jB k S).isSome=true) (t:Int):countS t (ke k v S)≤countS t S:=by
 refine qK (sorted_put _ _ b) (fun x d => ?_) t
 rcases (jA k v S x).1 d with rfl | ⟨h,-⟩
 ·obtain ⟨u,hu⟩:=cC.1 hk
  exact aB.2 ⟨_,(ow b.keys k u).1 hu,rfl⟩
 ·exact aB.2 ⟨x,h,rfl⟩
theorem y6 {S:List E} {k:K} {v:List UInt8} {t:Int} (i:SortedE S) (j:k.1≠t):countS t (ke k v S)≤countS t S:=by
 rw [oi,oi]
 refine qh ((sorted_put k v i).keys.filter _) fun y d => ?_
 obtain ⟨d,b⟩:=ch.1 d
 obtain ⟨x,l,rfl⟩:=aB.1 d
 rcases (jA k v S x).1 l with rfl | ⟨h,-⟩
 ·exact absurd (dE b) j
 ·exact ch.2 ⟨aB.2 ⟨x,h,rfl⟩,b⟩
theorem ThereOk.step {room:Nat→Int} {P:E→Prop} {S:List E} (h:ThereOk room P S) {x:E} (j:P x):ThereOk room P (tS room S x):=by
 unfold tS
 by_cases d:inTab x.1
 ·rw [aD d]
  by_cases hc:((jB x.1 S).isSome || decide ((countS x.1.1 S:Int)<room x.1.1.toNat))=true
  ·rw [aD hc]
   refine ⟨sorted_put _ _ h.sorted,fun y i => ?_,fun t h3 => ?_,fun y i => ?_⟩
   ·rcases (jA x.1 x.2 S y).1 i with rfl | ⟨h1,-⟩
    ·exact d
    ·exact h.tab y h1
   ·have h1:=h.room t h3
    by_cases he:x.1.1=(t:Int)
    ·rcases cA (jB x.1 S).isSome with b | b
     ·have:=Cj (v:=x.2) h.sorted b (t:Int)
      omega
     ·rw [b,Bool.false_or,dj,he] at hc
      have h2:=vM (v:=x.2) h.sorted (Option.not_isSome_iff_eq_none.1 (by rw [b];decide))
      rw [he] at h2
      rw [dV] at hc
      omega
    ·have:=y6 (v:=x.2) h.sorted he
     omega
   ·rcases (jA x.1 x.2 S y).1 i with rfl | ⟨h1,-⟩
    ·exact j
    ·exact h.mem y h1
  ·rw [au hc]
   exact h
 ·rw [au d]
  exact h
theorem Ao {S:List E} (h:∀ x∈S,inTab x.1):S.length=countS 0 S+countS 1 S+countS 2 S:=by
 induction S with
 | nil=>rfl
 | cons x S ih =>
  have h1:=ih fun y b=>h y (by simp [b])
  obtain ⟨h2,h3⟩:=h x (by simp)
  unfold countS at h1⊢
  rw [dg,dg,dg,ar,h1]
  have h4:x.1.1=0∨x.1.1=1∨x.1.1=2:=by omega
  rcases h4 with h4 | h4 | h4 <;> simp [h4] <;> omega
theorem ThereOk.len {l:List Int} {P:E→Prop} {S:List E} (h:ThereOk (roomN l) P S):S.length≤120:=by
 have b:=h.room 0 (by omega)
 have h1:=h.room 1 (by omega)
 have h2:=h.room 2 (by omega)
 have b0:=(kJ l 0).2
 have m:=(kJ l 1).2
 have o:=(kJ l 2).2
 have e:=Ao h.tab
 have d:((countS 0 S:Nat):Int)≤roomN l 0:=b
 have i:((countS 1 S:Nat):Int)≤roomN l 1:=h1
 have j:((countS 2 S:Nat):Int)≤roomN l 2:=h2
 omega
theorem wO {S:List E} {room:Nat→Int} (h:overS S room=none):∀ t:Nat,t<3→(countS (t:Int) S:Int)≤room t:=by
 unfold overS at h
 split at h
 ·cases h
 ·split at h
  ·cases h
  ·split at h
   ·cases h
   ·intro t b
    match t,b with
    | 0,_=>show ((countS 0 S:Nat):Int)≤_;omega
    | 1,_=>show ((countS 1 S:Nat):Int)≤_;omega
    | 2,_=>show ((countS 2 S:Nat):Int)≤_;omega
theorem Ia (d:DpS) (T:List E) (hd:d.dead=false) (b:SortedE d.S) (i:SortedE T) (hk:∀ x∈T,inTab x.1) (j:overS T d.room=none):d.run (jo d.S T)=d.zN (jo d.S T) (jo d.S T).length:=by
 have:=DpS.Bu d T hd b i hk (wO j) (jo d.S T).length (af _)
 rwa [bC] at this
theorem GX (d:DpS) (os:List rF) (h:d.left<0):(d.zN os os.length).S=jW d.S os∧(d.zN os os.length).log=d.log++os.map qA:=by
 unfold DpS.zN
 rw [aD h,bC]
 exact ⟨rfl,rfl⟩
theorem GN (d:DpS) (o:rF) (y:E) (h:y∈(d.step o).S):y∈d.S∨o=(y.1,some y.2):=by
 obtain ⟨k,v⟩:=o
 have hs:d.stop.S=d.S:=rfl
 cases v with
 | none =>
  unfold DpS.step DpS.drop at h
  simp only at h
  split at h
  ·exact .inl h
  ·exact .inl ((mO k _ y).1 h).1
 | some v =>
  unfold DpS.step DpS.put at h
  simp only at h
  split at h
  ·exact .inl h
  ·split at h
   ·rcases (jA k v _ y).1 h with rfl | ⟨h,-⟩
    ·exact .inr rfl
    ·exact .inl h
   ·exact .inl h
theorem DX:∀ (os:List rF) (d:DpS) (y:E),y∈(d.run os).S→y∈d.S∨(y.1,some y.2)∈os
 | [],_,_,h => .inl h
 | o::os,d,y,h=>by
  rcases DX os (d.step o) y h with h | h
  ·rcases GN d o y h with h | h
   ·exact .inl h
   ·exact .inr (by rw [h];exact bV)
  ·exact .inr (aR _ h)
theorem Gp {h w:List E} {y:E} (hm:(y.1,some y.2)∈jo h w):y∈w:=by
 unfold jo at hm
 rw [bE] at hm
 rcases hm with hm | hm
 ·obtain ⟨x,-,e⟩:=aB.1 hm
  injection e with d b
  cases b
 ·obtain ⟨x,i,e⟩:=aB.1 hm
  injection e with d b
  injection b with j
  have:x=y:=Prod.ext d j
  rw [←this]
  exact ((mP x).1 i).1
theorem Fe (d:DpS) (o:rF):(d.step o).room=d.room:=by
 obtain ⟨k,v⟩:=o
 cases v with
 | none=>unfold DpS.step DpS.drop;simp only;split <;> rfl
 | some v =>
  unfold DpS.step DpS.put
  simp only
  split
  ·rfl
  ·split <;> rfl
theorem Bt:∀ (os:List rF) (d:DpS),(d.run os).room=d.room
 | [],_=>rfl
 | o::os,d=>(Bt os (d.step o)).trans (Fe d o)
end Go.Proofs.YtkkfmkhbdoeglabGreatDoor
namespace Go.Proofs.YtkkfmkhbdoeglabGreatDoor
open Go.RowKit Go.Shelf
theorem yx (n:Nat) (w:World) (h:32≤n) (h2:n≤128):Calls Tryz.prog 198 #[.int .i64 (n:Nat)] w fun e w'=>e = .returned (.int .i64 (placeOf n:Nat))∧w'=w:=by
 have e:(16*((n:Int)-8)+10+53-1) / 53=(placeOf n:Int):=by unfold placeOf;omega
 have b:=ab e
 clear e
 go_enter Tryz.func198,Tryz.ntmps198
 go_wp2
 go_ret
 exact ⟨zw b.out,rfl⟩
theorem vX (b:Nat) (w:World):Calls Tryz.prog 174 #[.iface 188 (.pointer (some ⟨b,0,none⟩))] w fun e w'=>e = .returned (.pointer (some ⟨w.heap.size,0,none⟩))∧w'=w.alloc (.cells #[.int .i64 12,.int .i64 0,.iface 188 (.pointer (some ⟨b,0,none⟩))] 186):=by
 go_enter Tryz.func174,Tryz.ntmps174
 go_wp2
 go_ret
 exact ⟨rfl,rfl⟩
def xU (w w':World) (v:Value):Option Nat→Prop
 | none=>v = .nilIface
 | some s=>kL w w' v s
def LogAt (w:World) (lg h:Nat) (g:LogS):Prop:=w.heap[lg]?=some (.cells #[.iface 217 (.agg #[.pointer (some ⟨h,0,none⟩)]),.int .u64 (g.stamp:Nat),.int .i64 (g.slot:Nat),.int .i64 (g.next:Nat)] 305 (0,0))
structure HostOk (H:fP) (B:Nat):Prop where
 n:32≤H.seen.length∧H.seen.length≤128
 hl:H.held.length=H.seen.length
 s64:∀ b∈H.seen,b.length=64
 h64:∀ b∈H.held,b.length=64
 late:∀ x∈H.late,x.1.length=64∧x.2<H.held.length
 fail : -1≤H.fail∧H.fail≤9223372036854775807
 writes:0≤H.writes∧H.writes≤B
 ll:H.late.length≤B
theorem HostOk.mono {H:fP} {B C:Nat} (h:HostOk H B) (b:B≤C):HostOk H C:=⟨h.n,h.hl,h.s64,h.h64,h.late,h.fail,by have:=h.writes;omega,by have:=h.ll;omega⟩
theorem B8 {n:Int} (h : -1≤n∧n≤9223372036854775807) : -1≤(if n<0 then n else n-1)∧(if n<0 then n else n-1)≤9223372036854775807:=by split <;> omega
theorem HostOk.asked {H:fP} {B:Nat} (h:HostOk H B):HostOk H.asked B:=⟨h.n,h.hl,h.s64,h.h64,h.late,B8 h.fail,h.writes,h.ll⟩
theorem HostOk.write {H:fP} {B n:Nat} {s:List UInt8} (h:HostOk H B) (j:n<H.seen.length) (hs:s.length=64):HostOk (H.write n s).1 (B+1)∧(H.write n s).1.seen.length=H.seen.length:=by
 unfold fP.write
 split
 ·exact ⟨h.asked.mono (by omega),rfl⟩
 ·have l:=h.asked
  refine ⟨⟨by rw [bW];exact h.n,by rw [bW];exact h.hl,fun b i => ?_,h.h64,fun x d => ?_,l.fail,by have:=h.writes;simp only;omega,?_⟩,by rw [bW]⟩
  ·rcases cS i with i | rfl
   ·exact h.s64 b i
   ·exact hs
  ·simp only at d
   split at d
   ·exact h.late x d
   ·rcases bE.1 d with d | d
    ·exact h.late x d
    ·rw [ax.1 d]
     exact ⟨hs,by show n<H.held.length;rw [h.hl];exact j⟩
  ·have:=h.ll
   simp only
   split
   ·omega
   ·rw [aq]
    simp
    omega
theorem si {α:Type} (i:Nat→Bool):∀ (l:List (α×Nat)) (k:Nat) (d:List α) (b : α),b∈applySel i k l d→b∈d∨∃ x∈l,b=x.1
 | [],k,d,b,h => .inl h
 | y::l,k,d,b,h=>by
  unfold applySel at h
  rcases si i l (k+1) _ b h with h | ⟨x,j,rfl⟩
  ·split at h
   ·rcases cS h with h | rfl
    ·exact .inl h
    ·exact .inr ⟨y,by simp,rfl⟩
   ·exact .inl h
  ·exact .inr ⟨x,by simp [j],rfl⟩
theorem HostOk.flush {H:fP} {B:Nat} (h:HostOk H B):HostOk H.flush.1 B∧H.flush.1.seen.length=H.seen.length:=by
 have d:=h.asked
 unfold fP.flush
 split
 ·exact ⟨d,rfl⟩
 ·split
  ·exact ⟨⟨h.n,h.hl,h.s64,h.h64,h.late,d.fail,h.writes,h.ll⟩,rfl⟩
  ·refine ⟨⟨h.n,(ka _ _ _ _).trans h.hl,h.s64,fun b i => ?_,fun x j=>by simp at j,d.fail,h.writes,aM _⟩,rfl⟩
   rcases si _ _ _ _ _ i with i | ⟨x,j,rfl⟩
   ·exact h.h64 b i
   ·exact (h.late x j).1
end Go.Proofs.YtkkfmkhbdoeglabGreatDoor
namespace Go.Proofs.YtkkfmkhbdoeglabGreatDoor
open Go.RowKit Go.Shelf
theorem C1 (h : Nat) (w : World) : (nilAhead 470 217 (.agg #[.pointer (some ⟨h, 0, none⟩)]) "Write").run Tryz.prog w = .ok (some false) w := by kernel_rfl
theorem xK (h : Nat) (w : World) : (method 470 217 (.agg #[.pointer (some ⟨h, 0, none⟩)]) "Write").run Tryz.prog w = .ok (252, .agg #[.pointer (some ⟨h, 0, none⟩)]) w := by kernel_rfl
theorem CZ (h : Nat) (w : World) : (nilAhead 470 217 (.agg #[.pointer (some ⟨h, 0, none⟩)]) "Flush").run Tryz.prog w = .ok (some false) w := by kernel_rfl
theorem xJ (h : Nat) (w : World) : (method 470 217 (.agg #[.pointer (some ⟨h, 0, none⟩)]) "Flush").run Tryz.prog w = .ok (249, .agg #[.pointer (some ⟨h, 0, none⟩)]) w := by kernel_rfl
theorem nu (h : Nat) (w : World) : (nilAhead 470 217 (.agg #[.pointer (some ⟨h, 0, none⟩)]) "Sectors").run Tryz.prog w = .ok (some false) w := by kernel_rfl
theorem lz (h : Nat) (w : World) : (method 470 217 (.agg #[.pointer (some ⟨h, 0, none⟩)]) "Sectors").run Tryz.prog w = .ok (251, .agg #[.pointer (some ⟨h, 0, none⟩)]) w := by kernel_rfl
theorem EO (h : Nat) (w : World) : (nilAhead 470 217 (.agg #[.pointer (some ⟨h, 0, none⟩)]) "Read").run Tryz.prog w = .ok (some false) w := by kernel_rfl
theorem zr (h : Nat) (w : World) : (method 470 217 (.agg #[.pointer (some ⟨h, 0, none⟩)]) "Read").run Tryz.prog w = .ok (250, .agg #[.pointer (some ⟨h, 0, none⟩)]) w := by kernel_rfl
def Ja (w:World) (F:Nat→Prop) (lg h:Nat) (H:fP) (g:LogS) (_dv:Value) (data:List UInt8) (at' B i:Nat) (wr:World):Prop :=
 ∃ (b:fP) (d:Nat→Prop),HostAt wr d h b∧HostOk b (B+i)∧b.seen.length=H.seen.length∧(∀ k,d k→F k∨w.heap.size≤k)∧Ext (fun k=>F k∨k=lg) w wr∧LogAt wr lg h {g with stamp:=g.stamp+1}∧¬d lg∧
  (∀ k,d k→k<wr.heap.size)∧gH ((gA (g.stamp+1) data).drop i) b (at'+i)=gH (gA (g.stamp+1) data) H at'
theorem GU (w:World) (a b c:Nat) (ha:a<256) (d:b<256) (hc:c<256):BytesAt (w.alloc (.cells #[.int .u8 (a:Int),.int .u8 (b:Int),.int .u8 (c:Int)] 5)) (.slice (some ⟨w.heap.size,0,none⟩) 3 3) [UInt8.ofNat a,UInt8.ofNat b,UInt8.ofNat c]:=by
 have h:=OwnS.new w #[.int .u8 (a:Int),.int .u8 (b:Int),.int .u8 (c:Int)] 5 0 0 0 1 3 3 (aM _) (by omega) (by decide) (by simp) (.inl (by omega))
 have e:(#[Value.int .u8 (a:Int),.int .u8 (b:Int),.int .u8 (c:Int)].toList.take (3*1))=u8s [UInt8.ofNat a,UInt8.ofNat b,UInt8.ofNat c]:=by
  simp [u8s]
  omega
 rw [e] at h
 exact h.bytes (l:=[UInt8.ofNat a,UInt8.ofNat b,UInt8.ofNat c])
theorem zy (gb go n cap i j:Nat) (a b:Int) (ha:a=(i:Int)) (l:b=(j:Int)) (m:i≤j) (o:j≤cap) (q:i<cap) (w:World) :
  (Instr.slice 112 (.slice (some ⟨gb,go,none⟩) n cap) (some (.int .i64 a)) (some (.int .i64 b)) none).run Tryz.prog w = .ok (.slice (some ⟨gb,go+i,none⟩) (j-i) (cap-i)) w:=by
 subst ha l
 have hu:Tryz.prog.underlying 112=some (.slice (Tryz.prog.elem 112)):=by kernel_rfl
 have hs:(sizeOf (Tryz.prog.elem 112)).run Tryz.prog w = .ok 1 w:=by kernel_rfl
 rw [run_slice_lh (P:=Tryz.prog) (w:=w) 112 (some ⟨gb,go,none⟩) n cap hu .i64 .i64 (i:Int) (j:Int) (by omega) (by omega) (by omega),hs]
 have d:¬cap=i:=by omega
 simp [Result.andThen,sliced,Addr.add,d]
theorem LogAt.ext {w w':World} {S:Nat→Prop} {lg h:Nat} {g:LogS} (hl:LogAt w lg h g) (b:Ext S w w') (d:¬S lg):LogAt w' lg h g:=b.at d hl
theorem kL.mono {w w1 w':World} {v:Value} {s:Nat} (h:kL w1 w' v s) (hs:w.heap.size≤w1.heap.size):kL w w' v s:=by
 obtain ⟨b,h1,h2,h3⟩:=h
 exact ⟨b,h1,aH hs h2,h3⟩
theorem xG {H H1:fP} {g:LogS} {at' f:Nat} {data:List UInt8} (h:gH (gA (g.stamp+1) data) H at'=(H1,some f)):fV H g at' data=(H1,some f):=by
 unfold fV
 rw [h]
theorem ur {H H1:fP} {g:LogS} {at':Nat} {data:List UInt8} (h:gH (gA (g.stamp+1) data) H at'=(H1,none)):fV H g at' data=H1.flush:=by
 unfold fV
 rw [h]
theorem E2 {s:Nat} {data:List UInt8} {k:Nat} (hk:k<partsOf data.length):(gA s data).drop k=jG (jy s k (partsOf data.length) (jF data k))::(gA s data).drop (k+1):=by
 have hl:=jd s data
 rw [b9 (by omega)]
 congr 1
 unfold gA
 simp
theorem BK {H:fP} {n:Nat} {s:List UInt8} (h:H.gW=true):H.write n s=(H.asked,some (n+2)):=by
 unfold fP.write
 rw [aD h]
theorem DC {H:fP} {n:Nat} {s:List UInt8} (h:H.gW=false):(H.write n s).2=none:=by
 unfold fP.write
 rw [au (by rw [h];decide)]
theorem AD {H:fP} (h:H.gW=true):H.flush=(H.asked,some 1):=by
 unfold fP.flush
 rw [aD h]
theorem CC {H:fP} (h:H.gW=false):H.flush.2=none:=by
 unfold fP.flush
 rw [au (by rw [h];decide)]
 split <;> rfl
theorem pB (lg h:Nat) (F:Nat→Prop) (H:fP) (g:LogS) (at' B:Nat) (dv:Value) (data:List UInt8) (w:World) (hl:LogAt w lg h g) (hh:HostAt w F h H) (a5:HostOk H B) (hB:B≤900000000) (a6:¬F lg) (a7:BytesAt w dv data) (bS:∀ k,dv.ownBlock=some k→¬F k∧k≠lg)
  (hp:at'+partsOf data.length≤H.seen.length) (e0:g.stamp<9000000000000000000) :
  Calls Tryz.prog 191 #[.pointer (some ⟨lg,0,none⟩),.int .i64 (at':Nat),dv] w fun e w'=>∃ r,e = .returned r∧xU w w' r (fV H g at' data).2∧LogAt w' lg h {g with stamp:=g.stamp+1}∧iy w F (fun k=>k=lg) h (fV H g at' data).1 w'∧HostOk (fV H g at' data).1 (B+partsOf data.length):=by
 have hn:=a5.n
 have e1:data.length≤53*128:=by unfold partsOf at hp;omega
 obtain ⟨P,hP⟩:∃ P,P=partsOf data.length:=⟨_,rfl⟩
 have bX:((data.length:Int)+53-1) / 53=(P:Int):=by rw [hP];unfold partsOf;omega
 obtain ⟨fv,fr,rfl,e2,-⟩:=a7.opened
 unfold LogAt at hl
 have E:=fO hl
 have c1:=ae _ _ 1 _ _ _ hl
 have f1:=aj _ _ 1 _ _ hl
 have b0:IntKind.u64.wrap ((g.stamp:Int)+1)=((g.stamp+1:Nat):Int):=by rw [show ((g.stamp:Int)+1)=((g.stamp+1:Nat):Int) by omega];exact IntWalk.u64_in _ (by omega)
 have c9:=ab bX
 have e3:=ab b0
 rw [←hP] at hp
 have C:=ab hP
 have HL:=ab hl
 have a9:Hid (LogAt (w.setCell ⟨lg,1,none⟩ (.int .u64 (g.stamp+1:Nat))) lg h {g with stamp:=g.stamp+1}):=ab (heap_setCell _ _ 1 _ hl)
 have ba:Hid (Ext (fun k=>F k∨k=lg) w (w.setCell ⟨lg,1,none⟩ (.int .u64 (g.stamp+1:Nat)))):=ab ((Ext.refl _ w).setCell _ _ (.inl (.inr rfl)))
 have ak:Hid (HostAt (w.setCell ⟨lg,1,none⟩ (.int .u64 (g.stamp+1:Nat))) F h H):=ab (hh.frame (by rw [size_setCell];exact af _) fun k hk=>Below.heap_setCell w ⟨lg,1,none⟩ _ k fun e=>a6 (by rw [←show k=lg from e];exact hk))
 have e4:=ab hh.lt
 have da:=ab a5
 have b1:=ab a7
 have dc:=ab bS
 have dk:=ab a6
 clear hP bX b0 hl hh a5 a7 bS a6
 go_enter Tryz.func191,Tryz.ntmps191
 go_wp2
 rw [show ((g.stamp:Int)+1)=((g.stamp+1:Nat):Int) by omega,c9.out]
 obtain ⟨w1,b2⟩:∃ w1,w1=w.setCell ⟨lg,1,none⟩ (.int .u64 (g.stamp+1:Nat)):=⟨_,rfl⟩
 rw [←b2] at a9 ba ak⊢
 clear b2 c1 f1
 obtain ⟨S,hS⟩:∃ S,S=g.stamp+1:=⟨_,rfl⟩
 have e5:S≤9000000000000000000:=by omega
 have HS:=ab hS
 rw [←hS]
 clear hS
 have eg:P≤128:=by omega
 go_loopw [25] (fun i wr=>∃ k:Nat,k≤P∧i = .int .i64 (k:Int)∧Ja w F lg h H g (.slice fv data.length fr) data at' B k wr) (fun i _=>P-(intOf i).toNat)
 case atStart=>exact ⟨0,aM _,rfl,H,F,ak.out,da.out,rfl,fun _ => .inl,ba.out,a9.out,dk.out,ak.out.lt,rfl⟩
 case round =>
  obtain ⟨k,hk,rfl,M,R,r1,r2,r3,r4,r5,V,r7,r8,r9⟩:=hrel
  have bb:=ab r1
  have d:=ab r2
  have G:=ab r4
  have X:=ab r5
  have al:=ab V
  have Y:=ab r7
  have d0:=ab r8
  have bc:=ab r9
  have b3:=ab r3
  unfold LogAt at V
  simp only at V
  rw [←HS.out] at V
  have c0:wr.cell? ⟨lg,0,none⟩=some (.iface 217 (.agg #[.pointer (some ⟨h,0,none⟩)])):=ae _ _ 0 _ _ _ V
  have c1:wr.cell? ⟨lg,1,none⟩=some (.int .u64 (S:Int)):=ae _ _ 1 _ _ _ V
  have b4:=fO V
  clear r1 r2 r3 r4 r5 V r7 r8 r9
  by_cases E:k<P
  ·have g1:(k:Int)<P:=by omega
   obtain ⟨N,hN⟩:∃ N,N=(jF data k).length:=⟨_,rfl⟩
   have c4:53*k≤data.length:=by rw [C.out] at E;unfold partsOf at E;omega
   have b5:N=min 53 (data.length-53*k):=by rw [hN];unfold jF;rw [az,bg]
   have el:N≤53:=by omega
   have be:min 53 ((data.length:Int)-(k:Int)*53)=(N:Int):=by omega
   have bi:=ab be
   have HN:=ab hN
   have e6:=ab b5
   obtain ⟨a',c',e',em,b6⟩:=b1.out.opened
   obtain ⟨rfl,-,rfl⟩:=Value.slice.inj e'
   have c6:0<data.length:=by rw [C.out] at E;unfold partsOf at E;omega
   have bP:53*k<data.length:=by rw [C.out] at E;unfold partsOf at E;omega
   obtain ⟨gb,go,rfl,d1⟩:=b6 0 c6
   have d2:∀ w,(Instr.slice 112 (.slice (some ⟨gb,go,none⟩) data.length fr) (some (.int .i64 ((k:Int)*53))) (some (.int .i64 ((k:Int)*53+N))) none).run Tryz.prog w = .ok (.slice (some ⟨gb,go+53*k,none⟩) N (fr-53*k)) w:=fun w=>by
    have:=zy gb go data.length fr (53*k) (53*k+N) ((k:Int)*53) ((k:Int)*53+N) (by omega) (by omega) (by omega) (by omega) (by omega) w
    rw [show 53*k+N-53*k=N by omega] at this
    exact this
   have b7:(data.take (53*k+N)).drop (53*k)=jF data k:=by
    unfold jF
    rw [List.drop_take]
    rw [show 53*k+N-53*k=N by omega,hN]
    unfold jF
    rw [az,←List.take_eq_take_min]
   have b8:Hid (∀ W,BytesAt W (.slice (some ⟨gb,go,none⟩) data.length fr) data→BytesAt W (.slice (some ⟨gb,go+53*k,none⟩) N (fr-53*k)) (jF data k)):=ab fun W hW=>by
    have:=hW.sub (53*k) (53*k+N) (by omega) (by omega)
    rw [b7,show 53*k+N-53*k=N by omega] at this
    exact this
   clear be hN b5 b7 b6 d1 e' c4 bP
   go_wp2_with fail
   rw [bi.out]
   refine (uu wr.heap.size (.slice none 0 0) [] S wr (OwnS.nil _ _ _) (CellsOf.nil _ _) (af _) (by decide) (by omega)).mono ?_
   rintro e w2 ⟨bv,rfl,J,bk,am⟩
   simp only [aJ,bG,aO] at J
   have d3:=am.size
   have ca:=ab J
   have cb:=ab bk
   have ce:=ab am
   have H3:=ab (GU w2 k P N (by omega) (by omega) (by omega))
   have e7:=(am.cell (p:=⟨lg,0,none⟩) b4).trans c0
   obtain ⟨sa,sc,rfl⟩:=J.shape
   clear J bk am
   have bl:Hid (BytesAt wr (.slice (some ⟨gb,go,none⟩) data.length fr) data):=ab (fW.frame b1.out fun b e hb=>X.out.block b hb fun e'=>by
    obtain ⟨q1,q2⟩:=dc.out b e
    exact e'.elim q1 q2)
   go_wp2_with (first
    | (at_builtin;refine kx rfl (.tmp 38) (.tmp 45) rfl wr.heap.size (.slice sa 8 sc) 8 (be8 S) rfl (by exact ca.out.below ((Below.refl _ w2).alloc (af _) _)) (cb.out.alloc _) [UInt8.ofNat k,UInt8.ofNat P,UInt8.ofNat N] (by exact H3.out) (by simp) (by simp;omega) ?_;intro v3 w3 U _ bn ci;simp only [ar,aJ,Nat.reduceAdd] at U;have bo:=ab U;have cl:=ab bn;have ap:Hid (Below wr.heap.size wr w3):=ab ((ce.out.alloc d3 _).trans ci);clear U bn ci;obtain ⟨e8,e9,rfl⟩:=bo.out.shape)
    | (at_builtin;refine kx rfl (.tmp 47) (.tmp 55) rfl wr.heap.size _ 11 _ rfl bo.out cl.out (jF data k) (by have d7:=b8.out w3 (bl.out.below ap.out);exact d7) (by rw [←HN.out];omega) ap.out.size ?_;intro v4 w4 av _ br co;have bs:=ab av;have d8:=ab br;have aE:Hid (Below wr.heap.size wr w4):=ab (ap.out.trans co);have fa:=(aE.out.cell (p:=⟨lg,0,none⟩) b4).trans c0;clear av br co))
   have bt:(at':Int)+(k:Int)=((at'+k:Nat):Int):=by omega
   have bw:=ab bt
   clear bt
   have bx:BytesAt w4 v4 (jy S k P (jF data k)):=by
    have h1:=bs.out.bytes (l:=be8 S++[UInt8.ofNat k,UInt8.ofNat P,UInt8.ofNat N]++jF data k) |>.name
    obtain ⟨m,rfl,h2⟩:=h1
    unfold jy
    rw [←HN.out]
    exact h2
   have cp:=ab bx
   have cq:∀ b,v4.ownBlock=some b→¬R b:=fun b e hF=>by
    have h1:=bs.out.gh b e
    have h2:=d0.out b hF
    omega
   have d9:=ab cq
   have a0:(jy S k P (jF data k)).length≤64:=by rw [pW,←HN.out];omega
   have bz:=ab a0
   have cr:=ab (bb.out.below aE.out)
   have fb:=C1 h
   have fc:=xK h
   have Z:Hid (at'+k<M.seen.length∧M.seen.length≤1000):=ab (by rw [b3.out];omega)
   have cs:=ab (E2 (s:=g.stamp+1) (data:=data) (k:=k) (by rw [←C.out];exact E))
   obtain ⟨fd,fg,rfl⟩:=bs.out.shape
   have bD:Hid (LogAt w4 lg h {g with stamp:=g.stamp+1}):=ab (fQ aE.out (fO al.out) al.out)
   have a1:=ab (X.out.trans (Ext.fT aE.out))
   clear bx cq a0 ak ba a9 bi b8 bl ca cb ce H3 bo cl ap d8 d2
   cases D:M.gW with
   | true =>
    go_wp2_with fail
    rw [bw.out]
    refine (Fw h R M (at'+k) _ _ w4 cr.out cp.out bz.out Z.out.1 Z.out.2 D).mono ?_
    rintro e w5 ⟨v,rfl,aa,o,u⟩
    have ct:=BK (n:=at'+k) (s:=jG (jy S k P (jF data k))) D
    have ea:=ab ct
    have bH:=ab aa
    have I:=ab o
    have y:=ab u
    obtain ⟨fz,rfl,-,-⟩:=aa
    clear o u ct
    go_wp2
    go_ret
    have fB:fV H g at' data=(M.asked,some (at'+k+2)):=xG (by rw [←bc.out,cs.out];unfold gH;rw [←C.out,←HS.out,ea.out])
    refine ⟨_,rfl,?_⟩
    rw [fB]
    exact ⟨bH.out.mono a1.out.size,bD.out.ext y.out Y.out,⟨R,I.out,G.out,a1.out.trans' y.out fun j O=>(G.out j O).imp .inl id⟩,d.out.asked.mono (by rw [←C.out];omega)⟩
   | false =>
    have a2:=d.out.ll
    have c7:=d.out.writes
    go_wp2_with fail
    rw [bw.out]
    refine (DD h R M (at'+k) _ _ w4 cr.out cp.out d9.out bz.out Z.out.1 Z.out.2 D d.out.fail (by omega) (by omega)).mono ?_
    rintro e w5 ⟨rfl,eb⟩
    obtain ⟨F',o,cu,u⟩:=eb
    have bI:Ext R w4 w5:=u.mono fun j O=>O.elim id False.elim
    have I:=ab o
    have y:=ab bI
    have Q:=ab cu
    have ec:=ab (DC (n:=at'+k) (s:=jG (jy S k P (jF data k))) D)
    have bL:=ab (d.out.write (n:=at'+k) (s:=jG (jy S k P (jF data k))) Z.out.1 (mN bz.out))
    clear o cu u bI a2 c7
    go_wp2
    go_roundw
    case rel =>
     refine ⟨k+1,by omega,by go_num,_,F',I.out,bL.out.1,bL.out.2.trans b3.out,fun j O => ?_,a1.out.trans' y.out fun j O=>(G.out j O).imp .inl id,bD.out.ext y.out Y.out,fun hl => ?_,I.out.lt,?_⟩
     ·rcases Q.out j O with e | e
      ·exact G.out j e
      ·exact .inr (aH a1.out.size e)
     ·rcases Q.out lg hl with e | e
      ·exact Y.out e
      ·have:=fO bD.out
       omega
     ·rw [←bc.out,cs.out,←C.out]
      conv=>rhs;unfold gH
      rw [←HS.out]
      have h1:=ec.out
      generalize M.write (at'+k) (jG (jy S k P (jF data k)))=q at h1⊢
      obtain ⟨q1,q2⟩:=q
      simp only at h1
      subst h1
      rw [aW]
    case measure=>simp [intOf];omega
  ·obtain rfl:k=P:=by omega
   have fi:=CZ h
   have fk:=xJ h
   have a3:Hid (gH (gA (g.stamp+1) data) H at'=(M,none)):=ab (by
    rw [←bc.out,fJ (by rw [jd,C.out];exact af _)]
    rfl)
   have a2:=d.out.ll
   cases D:M.gW with
   | true =>
    go_wp2_with fail
    refine (Ex h R M wr bb.out D).mono ?_
    rintro e w5 ⟨v,rfl,aa,o,u⟩
    have bH:=ab aa
    have I:=ab o
    have y:=ab u
    have Q:=ab (AD D)
    obtain ⟨fz,rfl,-,-⟩:=aa
    clear o u
    go_wp2
    go_ret
    refine ⟨_,rfl,?_⟩
    rw [ur a3.out,Q.out]
    exact ⟨bH.out.mono X.out.size,al.out.ext y.out Y.out,⟨R,I.out,G.out,X.out.trans' y.out fun j O=>(G.out j O).imp .inl id⟩,d.out.asked.mono (by rw [←C.out];omega)⟩
   | false =>
    have ed:=d.out.hl
    go_wp2_with fail
    refine (CD h R M wr bb.out D d.out.fail (by omega) (fun x hx=>(d.out.late x hx).2) (by have:=d.out.n;omega)).mono ?_
    rintro e w5 ⟨rfl,o,u⟩
    have I:=ab o
    have y:=ab u
    have Q:=ab (CC D)
    clear o u ed
    go_wp2
    go_ret
    refine ⟨_,rfl,?_⟩
    rw [ur a3.out,Q.out]
    exact ⟨rfl,al.out.ext y.out Y.out,⟨R,I.out,G.out,X.out.trans' y.out fun j O=>(G.out j O).imp .inl id⟩,d.out.flush.1.mono (by rw [←C.out];omega)⟩
end Go.Proofs.YtkkfmkhbdoeglabGreatDoor
