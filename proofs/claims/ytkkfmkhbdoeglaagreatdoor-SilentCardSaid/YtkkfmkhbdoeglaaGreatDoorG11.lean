/- A part of what is proved here: lemmas and contracts of single functions. No condition but those that each names. -/
import Derived.Test.YtkkfmkhbdoeglaaGreatDoorG00
import Derived.BigQuiet
import Derived.BigRegion
import Derived.Deep.QuietTactic
import Derived.Deep.RegionWith
import Derived.LoopIn
import Derived.LoopNIn
import Derived.Maps.AppendAt
import Derived.OwnWalkIn
import Derived.RangeFuncBound
import Derived.RangeFuncBox
import Derived.RangeFuncCalls
import Derived.RangeFuncGives
import Derived.RangeFuncLeaves
import Derived.RangeFuncMany
import Derived.RangeFuncNested
import Derived.RegionTactic
import Derived.Shelf.Abstract
import Derived.Shelf.RegionOpen
import Derived.Shelf.SlSortCmp.NoneTotal
import Derived.StillTailTactics
import Derived.TacticsInMore
import Derived.WalkKit
import Derived.WalkLawsBesides
import Derived.Test.YtkkfmkhbdoeglaaGreatDoorG02
import Derived.Test.YtkkfmkhbdoeglaaGreatDoorG07
import Derived.Test.YtkkfmkhbdoeglaaGreatDoorG09
import Derived.Test.YtkkfmkhbdoeglaaGreatDoorG10
set_option maxHeartbeats 4000000
set_option maxRecDepth 100000
namespace Go.Proofs.YtkkfmkhbdoeglaaGreatDoor
open Go.RowKit Go.Shelf
theorem ny {α:Type} (b:Nat→Bool):∀ (l:List (α×Nat)) (k:Nat) (d:List α) (x : α×Nat),applySel b k (l++[x]) d=if b (k+l.length) then (applySel b k l d).set x.2 x.1 else applySel b k l d
 | [],k,d,x=>by simp [applySel]
 | y::l,k,d,x=>by
  rw [aV]
  unfold applySel
  rw [ny b l (k+1) _ x,ar,show k+(l.length+1)=k+1+l.length by omega]
theorem LateAt.get {w:World} {F:Nat→Prop} {v:Value} {late:List (List UInt8×Nat)} (h:LateAt w F v late):∃ g cap,v = .slice g late.length cap∧late.length≤cap∧∀ (i:Nat) (b:List UInt8×Nat),late[i]?=some b→∃ g0 off u,g=some ⟨g0,off,none⟩∧w.cell? ⟨g0,off+i*2,none⟩=some (.int .i64 (b.2:Int))∧w.cell? ⟨g0,off+i*2+1,none⟩=some u∧iP w F u b.1:=by
 obtain ⟨vals,E,h1,h2,h3,h4⟩:=h
 obtain ⟨hl,g,cap,o,hc,j⟩:=h1.sliceAt
 refine ⟨g,cap,o,hc,fun i b l => ?_⟩
 obtain ⟨u,hu,hs⟩:=h4 i b l
 have key:∀ (late:List (List UInt8×Nat)) (vals:List Value) (i:Nat) (b:List UInt8×Nat) (u:Value),late[i]?=some b→vals[i]?=some u→(p7 late vals)[i*2]?=some (.int .i64 (b.2:Int))∧(p7 late vals)[i*2+1]?=some u:=by
  intro late
  induction late with
  | nil=>intro vals i b u h;simp at h
  | cons y late ih =>
   intro vals i b u h k
   cases vals with
   | nil=>simp at k
   | cons z vals =>
    have e:p7 (y::late) (z::vals) = .int .i64 (y.2:Int)::z::p7 late vals:=rfl
    rw [e]
    cases i with
    | zero =>
     simp at h k
     subst h k
     exact ⟨rfl,rfl⟩
    | succ i =>
     have:=ih vals i b u (by simpa using h) (by simpa using k)
     rw [show (i+1)*2=i*2+1+1 by omega,show i*2+1+1+1=(i*2+1)+1+1 by omega]
     simpa using this
 obtain ⟨q,r⟩:=key late vals i b u l hu
 obtain ⟨s,e0⟩:=aF.1 q
 obtain ⟨x,B⟩:=aF.1 r
 obtain ⟨g0,off,m,c0⟩:=j _ s
 obtain ⟨D,C,d,c1⟩:=j _ x
 rw [m] at d
 cases d
 exact ⟨g0,off,u,m,by rw [c0,e0],by rw [aY,c1,B],hs⟩
theorem RowsAt.store {w:World} {F:Nat→Prop} {v:Value} {rows:List (List UInt8)} (h:RowsAt w F v rows) {n:Nat} (j:n<rows.length):∃ gs os cap u0,v = .slice (some ⟨gs,os,none⟩) rows.length cap∧w.cell? ⟨gs,os+n,none⟩=some u0∧w.frozen? ⟨gs,os+n,none⟩=false∧(∃ C fz,w.heap[gs]?=some (.cells C 59 fz))∧F gs:=by
 obtain ⟨vals,h1,h2,h3,h4⟩:=h
 obtain ⟨hl,b⟩:=h1
 rcases b with ⟨e,e0⟩ | ⟨g,off,cap,rfl,-,-,hc,-,l,i⟩
 ·omega
 ·obtain ⟨f1,f2⟩:=i n (by omega)
  obtain ⟨u0,d⟩:=cy.1 f1
  exact ⟨g,off,cap,u0,rfl,d,f2,h2 g rfl,h3 g rfl⟩
theorem LateAt.nil (w:World) (F:Nat→Prop):LateAt w F (.slice none 0 0) []:=⟨[],rfl,OwnS.nil _ _ _,CellsOf.nil _ _,fun k e=>by simp [Value.ownBlock] at e,fun i b h=>by simp at h⟩
theorem Dl (h:Nat) (F:Nat→Prop) (H:fx) (w:World) (E:HostAt w F h H) (s:H.gy=true) :
  Calls Tryz.prog 199 #[.agg #[.pointer (some ⟨h,0,none⟩)]] w fun e w'=>∃ v,e = .returned v∧jZ w w' v 1∧HostAt w' F h H.asked∧Ext F w w':=by
 obtain ⟨x,d⟩:=E
 have b:Below w.heap.size w (w.alloc (.cells #[.pointer (some ⟨h,0,none⟩)] 188)):=(Below.refl _ w).alloc (af _) _
 have i:=d.frame b.size fun k hk=>b.block k (d.lt k hk)
 have u:=i.dp.row
 have M:=d.dp.row.lt
 have y:=fA w (.cells #[.pointer (some ⟨h,0,none⟩)] 188)
 have rc:=ae _ _ 0 _ _ _ y
 have m:x.fail=0:=by rw [d.fail];simpa [fx.gy] using s
 have B:=ab (lH h x _ u (by omega) (by omega))
 have G:=ab b
 have I:=ab i
 have C:=ab m
 have J:Hid (F h):=ab d.foot.1
 clear d i u y b s m
 go_enter Tryz.func199,Tryz.ntmps199
 go_wp2_with fail
 refine B.out.mono ?_
 rintro e w1 ⟨rfl,o,q,j⟩
 rw [C.out]
 have r:=ab (I.out.asked o q j)
 have D:=ab j
 clear o j
 go_wp2
 go_ret
 have l:Below w1.heap.size w1 (w1.alloc (.cells #[.int .i64 (-1)] 171)):=(Below.refl _ w1).alloc (af _) _
 refine ⟨_,rfl,⟨_,rfl,dL _,?_⟩,⟨_,r.out.frame l.size fun k hk=>l.block k (r.out.lt k hk)⟩,?_⟩
 ·have h1:=fA w1 (.cells #[.int .i64 (-1)] 171)
  rw [q,ax] at h1
  rw [h1]
  rfl
 ·exact ((Ext.fD G.out).trans (D.out.mono fun k e=>by rw [e];exact J.out)).trans (Ext.fD l)
def FT (w:World) (F:Nat→Prop) (h:Nat) (x:HV) (H:fx) (k:Nat) (wr:World):Prop :=
 gB wr F h x {H.asked with dp:=H.dp.stop,held:=applySel (fun _=>true) 0 (H.late.take k) H.held}∧Ext F w wr∧wr.heap[w.heap.size]?=some (.cells #[.pointer (some ⟨h,0,none⟩)] 188 (0,0))
theorem Ao (h:Nat) (F:Nat→Prop) (H:fx) (w:World) (hh:HostAt w F h H) (hf:H.gy=false) (b0 : -1≤H.fail∧H.fail≤9223372036854775807) (c9:H.late.length≤1000000000) (a1:∀ x∈H.late,x.2<H.held.length) (_hhl:H.held.length≤1000) :
  Calls Tryz.prog 199 #[.agg #[.pointer (some ⟨h,0,none⟩)]] w fun e w'=>e = .returned .nilIface∧HostAt w' F h H.flush.1∧Ext F w w':=by
 obtain ⟨x,J⟩:=hh
 have Q:Below w.heap.size w (w.alloc (.cells #[.pointer (some ⟨h,0,none⟩)] 188)):=(Below.refl _ w).alloc (af _) _
 have S:=J.frame Q.size fun k hk=>Q.block k (J.lt k hk)
 have H0:=S.dp.row
 have U:=J.dp.row.lt
 have R0:=fA w (.cells #[.pointer (some ⟨h,0,none⟩)] 188)
 have rc:=ae _ _ 0 _ _ _ R0
 have a2:decide (x.fail=0)=false:=by rw [J.fail];exact hf
 have a3:=ab (lH h x _ H0 (by rw [J.fail];omega) (by rw [J.fail];omega))
 have HB:=ab Q
 have HX:=ab S
 have b2:=ab a2
 have a4:=ab hf
 have HF:Hid (F h):=ab J.foot.1
 have b3:=ab R0
 have b4:=ab a1
 have a5:w.heap.size≠h:=by omega
 clear J S H0 R0 Q hf a2 b0 a1
 go_enter Tryz.func199,Tryz.ntmps199
 go_wp2_with fail
 refine a3.out.mono ?_
 rintro e w1 ⟨rfl,a6,a7,o⟩
 rw [b2.out]
 have q:=ab (HX.out.asked a6 a7 o)
 have b5:Hid (Ext F w w1):=ab ((Ext.fD HB.out).trans (o.mono fun k e=>by rw [e];exact HF.out))
 have V:=ab (o.at a5 b3.out)
 clear a6 o a7 rc a3
 have rc:=ae _ _ 0 _ _ _ V.out
 have b6:=fw V.out
 obtain ⟨B,o⟩:∃ B:HV,B = {x with fail:=if x.fail<0 then x.fail else x.fail-1} := ⟨_,rfl⟩
 rw [←o] at q
 clear o
 have a9:=ab (nc h B w1 q.out.dp.row (by have:=q.out.dp.lb;have:=q.out.dp.left;omega) (by have:=q.out.dp.lb;have:=q.out.dp.left;omega))
 go_wp2_with fail
 refine a9.out.mono ?_
 rintro e w2 ⟨rfl,ba,bb,R⟩
 have M:=ab (q.out.Cd ba bb R)
 have bc:Hid (Ext F w w2):=ab (b5.out.trans (R.mono fun k e=>by rw [e];exact HF.out))
 have W:=ab (R.at a5 V.out)
 have bd:Hid (B.stop.dead=H.dp.stop.dead):=ab M.out.dp.dead
 clear ba bb R rc b6 a9
 cases hdd:B.stop.dead with
 | true =>
  go_wp2
  go_ret
  refine ⟨rfl,⟨B.stop,?_⟩,bc.out⟩
  have e:H.flush.1 = {H.asked with dp:=H.dp.stop} := by
   unfold fx.flush
   rw [au (by rw [a4.out];decide),aB (by rw [←bd.out,hdd])]
  rw [e]
  exact M.out
 | false =>
  have e:H.flush.1 = {H.asked with dp:=H.dp.stop,held:=applySel (fun _=>true) 0 H.late H.held,late:=[]} := by
   unfold fx.flush
   rw [au (by rw [a4.out];decide),au (by rw [←bd.out,hdd];decide)]
  have b7:=ab e
  clear e
  have d:=M.out.dp.row
  unfold HostIs HV.cells at d
  obtain ⟨la,bz,X,da,-⟩:=M.out.late.get
  have bi:=ab X
  rw [X] at d
  have ap:H.asked.late.length=H.late.length:=rfl
  rw [ap] at d
  have c2:=ae _ _ 2 _ _ _ d
  have f2:=aj _ _ 2 _ _ d
  have rc:=ae _ _ 0 _ _ _ W.out
  have b8:=fw d
  have bD:=fw W.out
  clear d X
  go_wp2
  have av:Hid (FT w F h B.stop H 0 w2):=ab ⟨M.out,bc.out,W.out⟩
  clear c2 f2 rc b8 bD
  go_loopw [20] (fun i wr=>∃ k:Nat,k≤H.late.length∧i = .int .i64 (k:Int)∧FT w F h B.stop H k wr) (fun i _=>H.late.length-(intOf i).toNat)
  case atStart=>exact ⟨0,aK _,rfl,av.out⟩
  case round =>
   obtain ⟨k,hk,rfl,hrel⟩:=hrel
   obtain ⟨N,bk,D⟩:=hrel
   have l:=ab N
   have bl:=ab bk
   have bo:=ab D
   have d:=N.dp.row
   unfold HostIs HV.cells at d
   have rc:wr.cell? ⟨w.heap.size,0,none⟩=some (.pointer (some ⟨h,0,none⟩)):=ae _ _ 0 _ _ _ D
   have bH:=fw D
   have ca:=fw d
   by_cases U:k<H.late.length
   ·obtain ⟨b,hb⟩:∃ b,b=H.late[k]:=⟨_,rfl⟩
    have Y:H.late[k]?=some b:=by rw [hb];exact aw U
    have Z:b.2<H.held.length:=b4.out b (by rw [hb];exact cL U)
    obtain ⟨dc,aE,aa,-,ag⟩:=N.late.get
    obtain ⟨g0,off,u,rfl,d0,d1,G⟩:=ag k b Y
    have e1:Value.slice la H.asked.late.length bz = .slice (some ⟨g0,off,none⟩) H.late.length aE:=bi.out.symm.trans aa
    obtain ⟨rfl,-,rfl⟩:=Value.slice.inj e1
    have hlen:(applySel (fun _=>true) 0 (H.late.take k) H.held).length=H.held.length:=jF _ _ _ _
    obtain ⟨gs,os,cap,u0,ak,s0,sf,⟨Cg,dk,al⟩,dl⟩:=N.held.store (n:=b.2) (by show _<(applySel (fun _=>true) 0 (H.late.take k) H.held).length;rw [hlen];exact Z)
    have am:B.stop.held = .slice (some ⟨gs,os,none⟩) H.held.length cap:=by rw [←hlen];exact ak
    obtain ⟨r,y,bM,-,-⟩:=G.1.opened
    subst bM
    rw [am] at d
    have c0:wr.cell? ⟨h,0,none⟩=some (.slice (some ⟨gs,os,none⟩) H.held.length cap):=ae _ _ 0 _ _ _ d
    have ce:=fE d0
    have bN:=fE s0
    obtain ⟨m,bn⟩:=b
    simp only at Z d0 d1 s0 sf G
    have ci:gs≠w.heap.size:=fun e=>by
     rw [e,D] at al
     cases al
    have g1:(k:Int)<H.late.length:=by omega
    have g2:(bn:Int)<H.held.length:=by omega
    have bO:=ab G
    have cl:=ab ak
    have co:=ab Y
    have bP:=ab hlen
    have cp:=ab Z
    clear N bk D d hb Y ag aa e1 hlen ak am G al
    go_wp2
    have E:Hid (Below wr.heap.size wr (wr.alloc (.cells #[.int .i64 (bn:Int),.slice r m.length y] 125))):=ab ((Below.refl _ wr).alloc (af _) _)
    have I:=fA wr (.cells #[.int .i64 (bn:Int),.slice r m.length y] 125)
    have cq:=fT (.cells #[.int .i64 (bn:Int),.slice r m.length y] 125) rc
    have cr:=fT (.cells #[.int .i64 (bn:Int),.slice r m.length y] 125) c0
    have br:=fT (.cells #[.int .i64 (bn:Int),.slice r m.length y] 125) s0
    have cs:(wr.alloc (.cells #[.int .i64 (bn:Int),.slice r m.length y] 125)).frozen? ⟨gs,os+bn,none⟩=false:=(cP (w:=wr) (a:=⟨gs,os+bn,none⟩) (heap_alloc_old wr _ bN)).trans sf
    obtain ⟨O,bs⟩:∃ O,O=wr.alloc (.cells #[.int .i64 (bn:Int),.slice r m.length y] 125):=⟨_,rfl⟩
    rw [←bs] at E I cq cr br cs⊢
    have dn:=ab I
    have n0:O.cell? ⟨wr.heap.size,0,none⟩=some (.int .i64 (bn:Int)):=ae _ _ 0 _ _ _ I
    have n1:O.cell? ⟨wr.heap.size,1,none⟩=some (.slice r m.length y):=ae _ _ 1 _ _ _ I
    have bt:=ab (l.out.frame E.out.size fun k hk=>E.out.block k (l.out.lt k hk))
    have ct:=ab (bl.out.trans (Ext.fD E.out))
    have cu:=ab (fy E.out (fw bo.out) bo.out)
    have ds:gs<O.heap.size:=fE br
    have dv:gs≠wr.heap.size:=by omega
    clear bs rc c0 s0 sf d0 d1 bH ca ce
    go_region
    go_wp2
    have bS:=bt.out.BT (w':=O.setCell ⟨gs,os+bn,none⟩ (.slice r m.length y)) (F':=F) (n:=bn) (s:=m) (u := .slice r m.length y) cl.out (by show bn<(applySel (fun _=>true) 0 (H.late.take k) H.held).length;rw [bP.out];exact cp.out)
     (bO.out.fP fun j C fz hj _=>E.out.block j (fw hj)) (fun _ h=>h) bt.out.lt rfl
    obtain ⟨q1,q2,q3⟩:=bS
    have cv:applySel (fun _=>true) 0 (H.late.take (k+1)) H.held=(applySel (fun _=>true) 0 (H.late.take k) H.held).set bn m:=by
     rw [lA _ _ co.out,ny]
     rfl
    refine ⟨⟨k+1,by omega,by go_num,?_,(ct.out.trans q3).drew,?_⟩,by simp [intOf];omega⟩
    ·have q4:=q1.frame (w':=(O.setCell ⟨gs,os+bn,none⟩ (.slice r m.length y)).drew) (af _) (fun _ _=>rfl)
     rw [cv]
     exact q4
    ·exact (Below.heap_setCell O ⟨gs,os+bn,none⟩ _ _ (ea ci)).trans cu.out
   ·obtain rfl:k=H.late.length:=by omega
    have g1:¬(H.late.length:Int)<H.late.length:=by omega
    rw [bi.out] at d
    have c2:=ae _ _ 2 _ _ _ d
    have f2:=aj _ _ 2 _ _ d
    clear d D
    go_wp2
    go_ret
    have bX:=l.out.GC (w1:=wr.setCell ⟨h,2,none⟩ (.slice none 0 0)) (x' := {B.stop with late := .slice none 0 0}) (H' := {H.asked with dp:=H.dp.stop,held:=applySel (fun _=>true) 0 H.late H.held,late:=[]})
     (heap_setCell _ _ 2 _ l.out.dp.row) (size_setCell _ _ _) ((Ext.refl _ wr).setCell _ _ (.inl rfl)) ⟨rfl,rfl,rfl,rfl,rfl⟩ ⟨by rw [bp],rfl,rfl,rfl,rfl⟩ ⟨l.out.dp.left,l.out.dp.dead,l.out.fail,l.out.writes⟩ l.out.dp.lb (LateAt.nil _ _)
    rw [b7.out]
    exact ⟨rfl,⟨_,bX⟩,bl.out.setCell _ _ (.inl HF.out)⟩
end Go.Proofs.YtkkfmkhbdoeglaaGreatDoor
namespace Go.Proofs.YtkkfmkhbdoeglaaGreatDoor
open Go.RowKit
theorem qH:∀ u:World,(zeroValue 180).run Tryz.prog u = .ok (kc []) u:=fun u=>by kernel_rfl
theorem me {w:World} {b o r:Nat} {v:Value} {S:List E} (h:w.cell? ⟨b,o,none⟩=some v) (d:TabAt w r S):b≠r:=by
 intro e
 subst e
 obtain ⟨-,L,⟨es,clock,i,-⟩,-⟩:=d
 unfold World.cell? at h
 rw [i] at h
 cases h
theorem iy.xx {w w':World} {v:Value} {os:List OpB} {r:Nat} {S:List E} (h:iy w v os) (l:TabAt w r S) (m:Ext (fun i=>i=r) w w'):iy w' v os:=by
 obtain ⟨hl,a,cap,rfl,hc,d⟩:=h
 refine ⟨hl,a,cap,rfl,hc,fun i o => ?_⟩
 obtain ⟨b,off,rfl,j⟩:=d i o
 exact ⟨b,off,rfl,m.cell (me j l) j⟩
structure EntAt (w:World) (b off r:Nat) (S:List E):Prop where
 cell:w.cell? ⟨b,off,none⟩=some (.map (some r))
 tab:TabAt w r S
theorem EntAt.lt {w:World} {b off r:Nat} {S:List E} (h:EntAt w b off r S):b<w.heap.size:=fE h.cell
theorem EntAt.ne {w:World} {b off r:Nat} {S:List E} (h:EntAt w b off r S):b≠r:=me h.cell h.tab
theorem EntAt.below {w w':World} {b off r:Nat} {S:List E} (h:EntAt w b off r S) (d:Below w.heap.size w w'):EntAt w' b off r S :=
 ⟨(d.cell (p:=⟨b,off,none⟩) h.lt).trans h.cell,h.tab.fP (d.block r h.tab.lt)⟩
theorem EntAt.step {w w':World} {b off r:Nat} {S T:List E} (h:EntAt w b off r S) (d:Ext (fun i=>i=r) w w') (j:TabAt w' r T):EntAt w' b off r T:=⟨d.cell h.ne h.cell,j⟩
theorem nA (w:World) :
  Calls Tryz.prog 54 #[] w fun e w'=>e = .returned (.pointer (some ⟨w.heap.size+1,0,none⟩))∧EntAt w' (w.heap.size+1) 0 w.heap.size []∧Below w.heap.size w w'∧w'.heap.size=w.heap.size+2:=by
 have d := @run_makeMap Tryz.prog
 go_enter Tryz.func54,Tryz.ntmps54
 go_wp2
 go_ret
 have b:Below (w.alloc (.map #[] 0)).heap.size (w.alloc (.map #[] 0)) ((w.alloc (.map #[] 0)).alloc (.cells #[.map (some w.heap.size)] 132)):=(Below.refl _ _).alloc (af _) _
 have hc:=mN (w.alloc (.map #[] 0)) #[.map (some w.heap.size)] 132 (0,0) 0
 rw [ax] at hc
 exact ⟨rfl,⟨hc,(TabAt.new w).fP (b.block _ (by simp))⟩,((Below.refl _ w).alloc (af _) _).alloc (by simp) _,by simp⟩
def oX (w:World) (r:Nat) (S:List E) (os:List OpB) (i:Value) (wr:World):Prop :=
 ∃ k:Nat,k≤os.length∧i = .int .i64 (k:Int)∧TabAt wr r (foldS S (os.take k))∧Ext (fun i=>i=r) w wr
theorem oX.step {w wr W b:World} {r k:Nat} {S:List E} {os:List OpB} (hk:k<os.length) (d:Ext (fun i=>i=r) w wr) (j:Below wr.heap.size wr W) (l:W.grownBy b (some r)) (m:TabAt b r (CC (foldS S (os.take k)) os[k])) :
  oX w r S os (.int .i64 ((k+1:Nat):Int)) b.drew :=
 ⟨k+1,hk,rfl,by rw [AB _ _ _ hk];exact m,((d.sK j).grow l (.inl rfl)).drew⟩
theorem vM (b off r:Nat) (S:List E) (v:Nat) (V:Value) (os:List OpB) (w:World) (he:EntAt w b off r S) (hs:iy w V os) (hlen:os.length≤2932031007402) :
  Calls Tryz.prog 99 #[.pointer (some ⟨b,off,none⟩),.agg #[.int .u64 v,V]] w fun e w'=>e = .returned (.tuple #[])∧TabAt w' r (foldS S os)∧Ext (fun i=>i=r) w w':=by
 obtain ⟨a,cap,rfl,ag,-⟩:=hs.opened
 have s:Below w.heap.size w (w.alloc (.cells #[.int .u64 (v:Int),.slice a os.length cap] 34)):=(Below.refl _ w).alloc (af _) _
 have J:=ab (he.below s)
 have W:=ab (hs.below s)
 have ak:=he.lt
 have O:Ext (fun i=>i=r) w (w.alloc (.cells #[.int .u64 (v:Int),.slice a os.length cap] 34)):=Ext.fD s
 clear hs he
 go_enter Tryz.func99,Tryz.ntmps99
 go_wp2
 generalize Q:w.alloc (.cells #[.int .u64 (v:Int),.slice a os.length cap] 34)=w0
 rw [Q] at J W O s
 clear Q
 go_loopw [9] (fun i wr=>oX w0 r S os i wr) (fun i _=>os.length-(intOf i).toNat)
 case atStart=>exact ⟨0,aK _,rfl,J.out.tab,Ext.refl _ _⟩
 case round =>
  obtain ⟨k,hk,rfl,d,y⟩:=hrel
  by_cases C:k<os.length
  ·have am:(k:Int)<os.length:=by omega
   have av:=y.size
   obtain ⟨a',cap',he,-,u⟩:=(W.out.xx J.out.tab y).opened
   cases he
   obtain ⟨ob,oo,rfl,c0,c1,c2,c3⟩:=u k C
   have X:=(J.out.step y d).cell
   have aE:=fE X
   have a0:=fE c0
   clear u
   have M:=ab d
   clear d
   obtain ⟨o,R⟩:∃ o,os[k]=o:=⟨_,rfl⟩
   have Y:=ab R
   rw [R] at c0 c1 c2 c3
   clear R
   obtain ⟨D,T,B,N⟩:=o
   have F:Below wr.heap.size wr (wr.alloc (.cells #[.int .i64 D,.int .i64 T,.string ⟨B.toArray⟩,.string ⟨N.toArray⟩] 96)):=(Below.refl _ wr).alloc (af _) _
   have x:TabAt (wr.alloc (.cells #[.int .i64 D,.int .i64 T,.string ⟨B.toArray⟩,.string ⟨N.toArray⟩] 96)) r (foldS S (os.take k)):=M.out.fP (F.block r M.out.lt)
   by_cases l:D=1
   ·obtain ⟨W1,hu,m,G,Z⟩:=x.put (mt:=107) Tryz.underlying107 (T,B) N
    have aa:(D==1)=true:=by rw [bf];exact l
    have U:Hid (CC (foldS S (os.take k)) os[k]=jS (T,B) N (foldS S (os.take k))):=ab (by rw [Y.out];exact aB l)
    have q:=hu 1
    have j:∀ w:World,w.drewN 1=w.drew:=fun _=>rfl
    rw [j,j] at q
    simp only [kV,iD,kc] at q
    have I:=ab m
    clear hu j l x m
    go_wp2
    go_region
    go_wp2
    refine ⟨oX.step C y F G (by rw [U.out];exact I.out),?_⟩
    simp [intOf]
    omega
   ·obtain ⟨W1,hu,m,G,Z⟩:=x.drop (mt:=107) Tryz.underlying107 (T,B) 94 0
    have aa:(D==1)=false:=by rw [aC];exact l
    have U:Hid (CC (foldS S (os.take k)) os[k]=ng (T,B) (foldS S (os.take k))):=ab (by rw [Y.out];exact au l)
    have q:=hu 1
    have j:∀ w:World,w.drewN 1=w.drew:=fun _=>rfl
    rw [j,j] at q
    simp only [kV,iD] at q
    have I:=ab m
    clear hu j l x m
    go_wp2
    go_region
    go_wp2
    refine ⟨oX.step C y F G (by rw [U.out];exact I.out),?_⟩
    simp [intOf]
    omega
  ·obtain rfl:k=os.length:=by omega
   have a1:¬(os.length:Int)<os.length:=by omega
   rw [bp] at d
   have M:=ab d
   clear d
   go_wp2
   go_end0
   exact ⟨rfl,M.out,O.trans y⟩
end Go.Proofs.YtkkfmkhbdoeglaaGreatDoor
namespace Go.Proofs.YtkkfmkhbdoeglaaGreatDoor
open Go.RowKit
theorem tF (x:Int) (w:World):Calls Tryz.prog 154 #[.int .i64 x] w fun e w'=>e = .returned (.bool false)∧w=w':=by
 have h:(x != x)=false:=by simp
 go_enter Tryz.func154,Tryz.ntmps154
 go_wp2
 go_ret
 exact ⟨rfl,rfl⟩
theorem tK (x:List UInt8) (w:World):Calls Tryz.prog 155 #[.string ⟨x.toArray⟩] w fun e w'=>e = .returned (.bool false)∧w=w':=by
 have h:(x==x)=true:=by simp
 go_enter Tryz.func155,Tryz.ntmps155
 go_wp2
 go_ret
 exact ⟨rfl,rfl⟩
def n9 (a b:Int):Int:=if a<b then -1 else if b<a then 1 else 0
def o4 (a b:List UInt8):Int:=if a<b then -1 else if b<a then 1 else 0
def nX (a b:K):Int:=if n9 a.1 b.1≠0 then n9 a.1 b.1 else o4 a.2 b.2
theorem uj (a b:Int) (w:World):Calls Tryz.prog 133 #[.int .i64 a,.int .i64 b] w fun e w'=>e = .returned (.int .i64 (n9 a b))∧w=w':=by
 rcases dO a b with h | h | h
 ·have d:Hid (n9 a b = -1):=ab (by unfold n9;rw [aB h])
  go_enter Tryz.func133,Tryz.ntmps133
  go_wp2_with (go_at_call 154;refine (tF _ _).mono ?_;rintro e w' ⟨rfl,rfl⟩)
  go_ret
  exact ⟨by rw [d.out];rfl,rfl⟩
 ·subst h
  have d:Hid (n9 a a=0):=ab (by unfold n9;simp)
  go_enter Tryz.func133,Tryz.ntmps133
  go_wp2_with (go_at_call 154;refine (tF _ _).mono ?_;rintro e w' ⟨rfl,rfl⟩)
  go_ret
  exact ⟨by rw [d.out];rfl,rfl⟩
 ·have i:¬a<b:=by omega
  have d:Hid (n9 a b=1):=ab (by unfold n9;rw [au i,aB h])
  go_enter Tryz.func133,Tryz.ntmps133
  go_wp2_with (go_at_call 154;refine (tF _ _).mono ?_;rintro e w' ⟨rfl,rfl⟩)
  go_ret
  exact ⟨by rw [d.out];rfl,rfl⟩
theorem Gh (a b:List UInt8):a<b∨a=b∨b<a:=by
 by_cases h1:a<b
 ·exact .inl h1
 ·by_cases h2:b<a
  ·exact .inr (.inr h2)
  ·exact .inr (.inl (List.le_antisymm (List.not_lt.1 h2) (List.not_lt.1 h1)))
theorem tL (a b:List UInt8) (w:World):Calls Tryz.prog 134 #[.string ⟨a.toArray⟩,.string ⟨b.toArray⟩] w fun e w'=>e = .returned (.int .i64 (o4 a b))∧w=w':=by
 rcases Gh a b with h | h | h
 ·have d:Hid (o4 a b = -1):=ab (by unfold o4;rw [aB h])
  have i:Op.bytesLess a b=true:=by rw [bytesLess_eq];exact cQ h
  clear h
  go_enter Tryz.func134,Tryz.ntmps134
  go_wp2_with (go_at_call 155;refine (tK _ _).mono ?_;rintro e w' ⟨rfl,rfl⟩)
  go_ret
  exact ⟨by rw [d.out];rfl,rfl⟩
 ·subst h
  have d:Hid (o4 a a=0):=ab (by unfold o4;simp [fj])
  have i:Op.bytesLess a a=false:=by rw [bytesLess_eq];exact cA (fj a)
  have hq:(a==a)=true:=dt a
  go_enter Tryz.func134,Tryz.ntmps134
  go_wp2_with (go_at_call 155;refine (tK _ _).mono ?_;rintro e w' ⟨rfl,rfl⟩)
  go_ret
  exact ⟨by rw [d.out];rfl,rfl⟩
 ·have h1:¬a<b:=fun j=>fj a (List.lt_trans j h)
  have h2:a≠b:=fun e=>fj a (by rw [e] at h⊢;exact h)
  have d:Hid (o4 a b=1):=ab (by unfold o4;rw [au h1,aB h])
  have i:Op.bytesLess a b=false:=by rw [bytesLess_eq];exact cA h1
  have hq:(a==b)=false:=by rw [aC];exact h2
  clear h h1 h2
  go_enter Tryz.func134,Tryz.ntmps134
  go_wp2_with (go_at_call 155;refine (tK _ _).mono ?_;rintro e w' ⟨rfl,rfl⟩)
  go_ret
  exact ⟨by rw [d.out];rfl,rfl⟩
theorem yF (w:World) (a b c:Obj):(((w.alloc a).alloc b).alloc c).drew=Sort.grow (w.drewN 1) #[a,b,c]:=by
 have h:((w.heap.push a).push b).push c=w.heap++#[a,b,c]:=by
  apply Array.ext'
  simp
 unfold Sort.grow World.alloc World.drew World.drewN
 simp [h]
theorem Gz (B cap:Nat) (x y:Int) (w:World) (r:w.cell? ⟨B,0,none⟩=some (.int .i64 x)) (h1:w.cell? ⟨B,1,none⟩=some (.int .i64 y)) :
  Calls Tryz.prog 132 #[.slice (some ⟨B,0,none⟩) 2 cap] w fun e w'=>e = .returned (.int .i64 (if x≠0 then x else y))∧w=w':=by
 obtain ⟨z,l⟩:∃ z,z=if x≠0 then x else y:=⟨_,rfl⟩
 rw [←l]
 have m:=ab l
 clear l
 go_enter Tryz.func132,Tryz.ntmps132
 go_wp2
 go_loop [8] (fun i=>i = .int .i64 0∨(i = .int .i64 1∧x=0)∨(i = .int .i64 2∧x=0∧y=0)) (fun i=>2-(intOf i).toNat)
 case atStart=>exact .inl rfl
 case round =>
  rcases hrel with rfl | ⟨rfl,b⟩ | ⟨rfl,b,d⟩
  ·by_cases b:x=0
   ·have o:(x != 0)=false:=by simp [b]
    have j:=ab b
    clear b
    go_wp2
    exact ⟨.inr (.inl ⟨rfl,j.out⟩),by simp [intOf]⟩
   ·have o:(x != 0)=true:=by simp [b]
    have HV:Hid (z=x):=ab (by rw [m.out,aB b])
    clear b
    go_wp2
    go_ret
    exact ⟨by rw [HV.out];rfl,rfl⟩
  ·have j:=ab b
   clear b
   by_cases d:y=0
   ·have o:(y != 0)=false:=by simp [d]
    have q:=ab d
    clear d
    go_wp2
    exact ⟨.inr (.inr ⟨rfl,j.out,q.out⟩),by simp [intOf]⟩
   ·have o:(y != 0)=true:=by simp [d]
    have HV:Hid (z=y):=ab (by rw [m.out,au (by rw [j.out];simp)])
    clear d
    go_wp2
    go_ret
    exact ⟨by rw [HV.out];rfl,rfl⟩
  ·have HV:Hid (z=0):=ab (by rw [m.out,au (by rw [b];simp),d])
   clear b d
   go_wp2
   go_ret
   exact ⟨by rw [HV.out];rfl,rfl⟩
theorem wz (a b:K) (w:World) :
  Calls Tryz.prog 93 #[.agg #[.int .i64 a.1,.string ⟨a.2.toArray⟩],.agg #[.int .i64 b.1,.string ⟨b.2.toArray⟩]] w fun e w'=>e = .returned (.int .i64 (nX a b))∧∃ q u,w'=Sort.grow (w.drewN q) u:=by
 obtain ⟨at',i⟩:=a
 obtain ⟨d,j⟩:=b
 simp only
 go_enter Tryz.func93,Tryz.ntmps93
 go_wp2
 have x:Below w.heap.size w ((w.alloc (.cells #[.int .i64 at',.string ⟨i.toArray⟩] 94)).alloc (.cells #[.int .i64 d,.string ⟨j.toArray⟩] 94)):=((Below.refl _ w).alloc (af _) _).alloc (by simp) _
 have r:=fG _ (.cells #[.int .i64 d,.string ⟨j.toArray⟩] 94) (fA w (.cells #[.int .i64 at',.string ⟨i.toArray⟩] 94))
 have m:=fA (w.alloc (.cells #[.int .i64 at',.string ⟨i.toArray⟩] 94)) (.cells #[.int .i64 d,.string ⟨j.toArray⟩] 94)
 rw [ax] at m
 generalize o:(w.alloc (.cells #[.int .i64 at',.string ⟨i.toArray⟩] 94)).alloc (.cells #[.int .i64 d,.string ⟨j.toArray⟩] 94)=l at *
 have y:=ab o
 clear o x
 have a0:=ae _ _ 0 _ _ _ r
 have a1:=ae _ _ 1 _ _ _ r
 have b0:=ae _ _ 0 _ _ _ m
 have C:=ae _ _ 1 _ _ _ m
 clear r m
 refine wp_region_still_tail 10 (by kernel_rfl) (by kernel_rfl) ?_
 simp only [bj,bY,eN,cw]
 repeat still_step
 still_call ((uj _ _ _).mono (fun e B h=>⟨h.1,h.2.symm⟩))
 repeat still_step
 still_call ((tL _ _ _).mono (fun e B h=>⟨h.1,h.2.symm⟩))
 refine wpStill_nil ?_
 clear a0 a1 b0 C
 go_wp2_with fail
 have s:=fA l (.cells #[.int .i64 (n9 at' d),.int .i64 (o4 i j)] 3)
 refine (Gz l.heap.size 2 (n9 at' d) (o4 i j) (l.alloc (.cells #[.int .i64 (n9 at' d),.int .i64 (o4 i j)] 3)).drew (ae (l.alloc (.cells #[.int .i64 (n9 at' d),.int .i64 (o4 i j)] 3)) _ 0 _ _ _ s) (ae (l.alloc (.cells #[.int .i64 (n9 at' d),.int .i64 (o4 i j)] 3)) _ 1 _ _ _ s)).mono ?_
 rintro e w3 ⟨rfl,rfl⟩
 clear s
 rw [show (if n9 at' d≠0 then n9 at' d else o4 i j)=nX (at',i) (d,j) from rfl]
 go_wp2
 go_ret
 refine ⟨rfl,1,#[.cells #[.int .i64 at',.string ⟨i.toArray⟩] 94,.cells #[.int .i64 d,.string ⟨j.toArray⟩] 94,.cells #[.int .i64 (n9 at' d),.int .i64 (o4 i j)] 3],?_⟩
 rw [←y.out]
 exact yF _ _ _ _
end Go.Proofs.YtkkfmkhbdoeglaaGreatDoor
namespace Go.Proofs.YtkkfmkhbdoeglaaGreatDoor
open Go.Shelf
def Dn:Go.Shelf.Ren:=⟨fun | 6=>130 | 15=>153 | 14=>152 | 28=>169 | 29=>170 | 20=>161 | 21=>162 | 22=>163 | 23=>164 | 24=>165 | 25=>166 | 26=>167 | 27=>168 | 46=>171 | 47=>172 | 48=>173 | 49=>174 | 50=>175 | 57=>176 | n=>n,fun | 22=>174 | 24=>94 | 25=>181 | 3=>3 | 39=>193 | 0=>0 | 53=>182 | 55=>26 | 4=>4 | 46=>287 | 45=>286 | 50=>148 | 5=>5 | 9=>9 | 66=>297 | 70=>300 | 76=>302 | 77=>243 | n=>n,fun | n=>n⟩
theorem FY:Go.Proofs.SlLaysF0.n6 Tryz.prog Dn := {
 mixed:=by kernel_rfl
 f6:=⟨Tryz.f130.name,by decide,Tryz.func130.trans (bG some (by kernel_rfl))⟩
 f14:=⟨Tryz.f152.name,by decide,Tryz.func152.trans (bG some (by kernel_rfl))⟩
 f15:=Tryz.func153.trans (bG some (by kernel_rfl))
 f20:=⟨Tryz.f161.name,by decide,Tryz.func161.trans (bG some (by kernel_rfl))⟩
 f21:=⟨Tryz.f162.name,by decide,Tryz.func162.trans (bG some (by kernel_rfl))⟩
 f22:=⟨Tryz.f163.name,by decide,Tryz.func163.trans (bG some (by kernel_rfl))⟩
 f23:=⟨Tryz.f164.name,by decide,Tryz.func164.trans (bG some (by kernel_rfl))⟩
 f24:=⟨Tryz.f165.name,by decide,Tryz.func165.trans (bG some (by kernel_rfl))⟩
 f25:=⟨Tryz.f166.name,by decide,Tryz.func166.trans (bG some (by kernel_rfl))⟩
 f26:=⟨Tryz.f167.name,by decide,Tryz.func167.trans (bG some (by kernel_rfl))⟩
 f27:=⟨Tryz.f168.name,by decide,Tryz.func168.trans (bG some (by kernel_rfl))⟩
 f28:=Tryz.func169.trans (bG some (by kernel_rfl))
 f29:=Tryz.func170.trans (bG some (by kernel_rfl))
 f46:=⟨Tryz.f171.name,by decide,Tryz.func171.trans (bG some (by kernel_rfl))⟩
 f47:=Tryz.func172.trans (bG some (by kernel_rfl))
 f48:=Tryz.func173.trans (bG some (by kernel_rfl))
 f49:=⟨Tryz.f174.name,by decide,Tryz.func174.trans (bG some (by kernel_rfl))⟩
 f50:=⟨Tryz.f175.name,by decide,Tryz.func175.trans (bG some (by kernel_rfl))⟩
 f57:=⟨Tryz.f176.name,by decide,Tryz.func176.trans (bG some (by kernel_rfl))⟩
 t0:=Tryz.underlying0
 a0:=Tryz.isAgg0
 z0:=Tryz.sizeOf0
 v0:=Tryz.zeroValue0
 t3:=Tryz.underlying3
 a3:=Tryz.isAgg3
 z3:=Tryz.sizeOf3
 v3:=Tryz.zeroValue3
 t4:=Tryz.underlying4
 a4:=Tryz.isAgg4
 z4:=Tryz.sizeOf4
 v4:=Tryz.zeroValue4
 t5:=Tryz.underlying5
 a5:=Tryz.isAgg5
 z5:=Tryz.sizeOf5
 v5:=Tryz.zeroValue5
 t9:=Tryz.underlying9
 a9:=Tryz.isAgg9
 z9:=Tryz.sizeOf9
 v9:=Tryz.zeroValue9
 t22:=Tryz.underlying174
 a22:=Tryz.isAgg174
 z22:=Tryz.sizeOf174
 v22:=Tryz.zeroValue174
 t25:=Tryz.underlying181
 a25:=Tryz.isAgg181
 z25:=Tryz.sizeOf181
 v25:=Tryz.zeroValue181
 t39:=Tryz.underlying193
 a39:=Tryz.isAgg193
 z39:=Tryz.sizeOf193
 v39:=Tryz.zeroValue193
 t45:=Tryz.underlying286
 a45:=Tryz.isAgg286
 z45:=Tryz.sizeOf286
 v45:=Tryz.zeroValue286
 t46:=Tryz.underlying287
 a46:=Tryz.isAgg287
 z46:=Tryz.sizeOf287
 v46:=Tryz.zeroValue287
 t50:=Tryz.underlying148
 a50:=Tryz.isAgg148
 z50:=Tryz.sizeOf148
 v50:=Tryz.zeroValue148
 t53:=Tryz.underlying182
 a53:=Tryz.isAgg182
 z53:=Tryz.sizeOf182
 v53:=Tryz.zeroValue182
 t55:=Tryz.underlying26
 a55:=Tryz.isAgg26
 z55:=Tryz.sizeOf26
 v55:=Tryz.zeroValue26
 t66:=Tryz.underlying297
 a66:=Tryz.isAgg297
 z66:=Tryz.sizeOf297
 v66:=Tryz.zeroValue297
 t70:=Tryz.underlying300
 a70:=Tryz.isAgg300
 z70:=Tryz.sizeOf300
 v70:=Tryz.zeroValue300
 t76:=Tryz.underlying302
 a76:=Tryz.isAgg302
 z76:=Tryz.sizeOf302
 v76:=Tryz.zeroValue302
 t77:=Tryz.underlying243
 a77:=Tryz.isAgg243
 z77:=Tryz.sizeOf243
 v77:=Tryz.zeroValue243}
end Go.Proofs.YtkkfmkhbdoeglaaGreatDoor
namespace Go.Proofs.YtkkfmkhbdoeglaaGreatDoor
open Go.RowKit Go.Shelf
attribute [local go_sem] Oper.semAt_some
theorem fU.of_walks {w w':World} {r q:Nat} {l pre:List (K×Value)} (h:fU w r q l pre) (hk:KeepsWalks w w'):fU w' r q l pre:=by
 obtain ⟨zs,d,clock,since,c0,h1,h2,i,b,rest⟩:=h
 exact ⟨zs,d,clock,since,c0,h1,h2,hk.same r _ i rfl,hk.same q _ b rfl,rest⟩
theorem fU.iter_walk {w:World} {r q:Nat} {l pre:List (K×Value)} (h:fU w r q l pre):∃ o:Obj,w.heap[q]?=some o∧o.isWalk=true:=by
 obtain ⟨zs,d,clock,since,c0,h1,h2,i,b,rest⟩:=h
 exact ⟨_,b,rfl⟩
theorem Ba (F:Fence) (n:Nat) (hf:F.fn 131) (O:F.round=none) (hn:1≤n) (j b:Nat) (S:List E) (w:World) (Q:j<w.heap.size) (hm:w.cell? ⟨j,0,none⟩=some (.map (some b))) (ht:TabAt w b S) :
  SeqStopsA F n Tryz.prog 131 #[.pointer (some ⟨j,0,none⟩)] (fun k:K=>#[kV k]) (fun xs=>xs.Perm (S.map (·.1))) (fun _=>True) S.length w:=by
 intro l J Jx W R D a2 hY h0
 obtain ⟨-,L,m,U⟩:=ht
 have s:fF W b L:=m.fP (R.block _ m.lt)
 have a3:W.cell? ⟨j,0,none⟩=some (.map (some b)):=(R.cell (p:=⟨j,0,none⟩) Q).trans hm
 have hlen:L.length=S.length:=by rw [U.length_eq,aG]
 have u:(L.map (·.1)).Perm (S.map (·.1)):=by
  have:=U.map (·.1)
  rw [qT] at this
  exact this
 refine callsIn_of_wp Tryz.func131 rfl hf ?_ O
 try simp only [Tryz.ntmps131,dy,ar,aM,Nat.reduceAdd,Nat.reduceSub,aZ,bm,bJ,dB,aO,aV]
 gi_wp2_with (first
  | (gi_at_range;refine mV rfl _ rfl Tryz.underlying107 rfl s ?_;intro w0 G d a4)
  | gi_in)
 try go_frame
 gi_loopw [3] (fun _ wr=>∃ pre,fU wr b W.heap.size L pre∧J (pre.map (·.1)) wr) (fun _ wr=>wr.rangeLeft b W.heap.size)
 case atStart =>
  exact ⟨[],G,D [] W w0 none h0 ⟨d.os,d.tape,d.output,d.size,fun k hk _=>d.block k hk⟩ (fun r e=>by cases e)⟩
 case round =>
  obtain ⟨pre,o,C⟩:=hrel
  gi_wp2_with (first
   | (gi_at_next;refine nR rfl _ rfl rfl o ?_ ?_)
   | gi_in)
  ·intro V
   gi_wp2
   go_end0
   exact ⟨⟨_,rfl⟩,.inl ⟨_,(V.map _).trans u,C⟩⟩
  ·intro x y v w2 hx a5 i X Y a6 a7
   have Z:J (pre.map (·.1)) w2:=D _ wr w2 (some W.heap.size) C X (fun r e=>by cases e;exact ⟨af _,o.iter_walk⟩)
   have aa:(pre.map (·.1)).length<S.length:=by
    have h1:=i.left
    rw [aG]
    simp at h1
    omega
   have I:J (pre.map (·.1)) (w2.alloc (.cells #[.int .i64 x,.string ⟨y.toArray⟩] 94)):=D _ w2 _ none Z (dC w2 _ none) (fun r e=>by cases e)
   have B:=i.of_walks (KeepsWalks.alloc w2 (.cells #[.int .i64 x,.string ⟨y.toArray⟩] 94))
   obtain ⟨fn,tmps,assign,body,hy,hR⟩:=hY (pre.map (·.1)) (x,y) (w2.alloc (.cells #[.int .i64 x,.string ⟨y.toArray⟩] 94)) I aa
   have hle:=o.left
   have M:=i.left
   simp only [aq,ar,aM] at M
   clear Y
   unfold kV iD at hy
   gi_wp2
   refine hR.mono ?_
   rintro e W3 (⟨rfl,ag,ak⟩ | ⟨rfl,N⟩)
   ·gi_wp2
    have q:=B.of_walks ak
    go_roundw
    case rel=>exact ⟨_,q,by rw [bA];exact ag⟩
    case measure =>
     have:=q.left
     simp only [aq,ar,aM] at this
     omega
   ·gi_wp2
    refine aI (dA rfl _ _ _) rfl ?_
    exact ⟨⟨_,rfl⟩,.inr ⟨_,cI,N⟩⟩
end Go.Proofs.YtkkfmkhbdoeglaaGreatDoor
namespace Go.Proofs.YtkkfmkhbdoeglaaGreatDoor
open Go.RowKit Go.Shelf
attribute [local go_sem] Oper.semAt_some
def gN (l:List K):List Value:=l.flatMap fun k=>[.int .i64 k.1,.string ⟨k.2.toArray⟩]
theorem vu (l:List K) (k:K):gN (l++[k])=gN l++[.int .i64 k.1,.string ⟨k.2.toArray⟩]:=by
 simp [gN]
theorem FE:(Tryz.prog.info? 94).map (fun i=>(i.zero,i.size,i.bytes))=some (some (.agg #[.int .i64 0,.string ⟨#[]⟩]),2,24):=by kernel_rfl
theorem cell_two_new (w:World) (x y:Value) (t:TypeId):∀ j u,[x,y][j]?=some u→(w.alloc (.cells #[x,y] t)).cell? ((⟨w.heap.size,0,none⟩:Addr).add j)=some u:=by
 intro j u b
 have:=ae (w.alloc (.cells #[x,y] t)) w.heap.size j _ _ _ (fA w (.cells #[x,y] t))
 match j,b with
 | 0,b=>simp at b;subst b;simp [Addr.add,this]
 | 1,b=>simp at b;subst b;simp [Addr.add,this]
 | j+2,b=>simp at b
theorem vC (F:Fence) (n:Nat) (hf:F.fn 151) (y:F.round=none) (hn:3≤n) (gf:Nat) (lb:Array Value) (O:F.fn gf) (eg:∀ args w,(callFunc gf args).run Tryz.prog w = .ok (.enter gf args) w)
  (I Sp:List K→Prop) (N:Nat) (hN:N≤1000000000) (w:World) (J:SeqStopsA F (n-1) Tryz.prog gf lb (fun k:K=>#[kV k]) I Sp N w) (_hSx:∀ xs,I xs→xs.length≤N) :
  CallsIn F n Tryz.prog 151 #[.slice none 0 0,.func (.func gf) #[] lb] w fun e W'=>∃ v xs,e = .returned v∧I xs∧W'.ownsRow w.heap.size 94 2 v xs.length (gN xs)∧Below w.heap.size w W':=by
 have h1:1≤n:=by omega
 obtain ⟨i0,hi,Q,R,S⟩:=dP FE
 refine callsIn_of_wp_marks Tryz.func151 rfl hf ?_ y
 try simp only [Tryz.ntmps151,dy,ar,aM,Nat.reduceAdd,Nat.reduceSub,aZ,bm,bJ,dB,aO,aV]
 gi_wp2
 have U:=Boxed.new w 174 (.slice none 0 0)
 have j:Below w.heap.size w (w.alloc (.cells #[.slice none 0 0] 174)):=(Below.refl _ w).alloc (af _) _
 have V:(w.alloc (.cells #[.slice none 0 0] 174)).heap.size=w.heap.size+1:=by simp
 obtain ⟨Z,B⟩:∃ Z,w.alloc (.cells #[.slice none 0 0] 174)=Z:=⟨_,rfl⟩
 rw [B] at U j V⊢
 clear B
 refine wpIn_rangeFunc_ownH y h1 (gf:=gf) (lb:=lb) rfl O eg J walksK_t walksK_b j (fun _=>rfl)
  (fun pre W=>(∃ v,Boxed W w.heap.size 174 v∧W.ownsRow w.heap.size 94 2 v pre.length (gN pre)∧True)∧Below w.heap.size w W)
  (fun _ _ _=>False)
  (OwnFrom.and (Own.from (holdsRow_own w.heap.size w.heap.size 174 94 2 (fun pre:List K=>pre.length) gN (fun _ _=>True)) _) (ownFrom_below (af _) (by omega)))
  (fun _ _ _ _ _ hs _ _=>hs)
  ⟨⟨_,U,World.ownsRow_nil _ _ _ _,cI⟩,j⟩
  (fun x M W=>∃ d,w.heap.size<d∧W.heap[d]?=some (.cells #[.int .i64 x.1,.string ⟨x.2.toArray⟩] 94 (0,0))∧M = {tmps:=#[.slice none 0 0,.func (.func gf) #[] lb,.pointer (some ⟨w.heap.size,0,none⟩),undef,.slice none 0 0,.pointer (some ⟨d,0,none⟩),.func (.func gf) #[] lb,.agg #[.int .i64 x.1,.string ⟨x.2.toArray⟩],undef,undef,undef,undef,undef],defers:=[]})
  (fun x M _ X Y row hs hg hr=>by
   obtain ⟨d,h1,h2,h3⟩:=hs
   exact ⟨d,h1,(hg.block d (fw h2) (fun e=>by obtain ⟨-,o,ho,hc⟩:=hr d e.symm;rw [h2] at ho;cases ho;cases hc)).trans h2,h3⟩)
  ?assign ?body ?done ?stop
 case assign =>
  rintro l pre x W K ⟨⟨v1,C,ak,-⟩,E⟩ hK
  unfold kV iD
  gi_wp2
  exact hK _ _ ((KeepsOthers.alloc _ _).from _) (KeepsWalks.alloc _ _) ⟨⟨v1,C.alloc _,ak.alloc _,cI⟩,E.alloc E.size _⟩ ⟨W.heap.size,C.lt,fA W _,rfl⟩
 case body =>
  rintro l pre ⟨kt,kb⟩ M W hl ⟨r,hr⟩ ⟨⟨v,s,b,-⟩,m⟩ ⟨d,a9,bX,rfl⟩ ba
  have hc:=s.cell
  have x0:=ae _ _ 0 _ _ _ bX
  have x1:=ae _ _ 1 _ _ _ bX
  have bb:=m.size
  have hmx:maxLen=9223372036854775807:=rfl
  gi_wp2_with (gi_at_builtin;refine wpListIn_append_own _ rfl _ _ 174 rfl w.heap.size 94 i0 (.agg #[.int .i64 0,.string ⟨#[]⟩]) 2 24 Tryz.underlying174 hi Q R S rfl (by decide) _ _ _ rfl (b.alloc _) ⟨W.heap.size,0,none⟩ 1 1 [.int .i64 kt,.string ⟨kb.toArray⟩] rfl rfl (cell_two_new _ _ _ _) (by simp [Value.oneCell']) (by omega) (by omega) (by simp;omega) ?_;intro v' w1 i u _;obtain ⟨g',cap',rfl⟩:=ownsRow_succ i;obtain ⟨G,am,ap,q,av⟩:=s.appended (by decide) b m.size (af _) i u;have bc:=G.cell;have bd:=G.frozen)
  exact ⟨q.from _,⟨q.size,fun k o h hw=>q.same k o h (Obj.not_cells_of_walk hw)⟩,⟨_,am,by rw [vu];simpa using ap⟩,m.trans av⟩
 case done =>
  rintro D ys W hD hS ⟨⟨v,s,b,-⟩,m⟩ hK
  have hc:=s.cell
  gi_wp2
  refine ⟨by simp,.inl ⟨_,_,rfl,run_takeDeferred hK,?_⟩⟩
  exact ⟨_,results_tmp rfl _ _ _,v,ys,rfl,hS,ownsRow_putObj b _ hK rfl,m.trans (belowK_b (w:=w) (af _) W D _ _ (by omega) hK rfl rfl)⟩
 case stop =>
  rintro D c pre W _ _ h _
  exact h.elim
end Go.Proofs.YtkkfmkhbdoeglaaGreatDoor
namespace Go.Proofs.YtkkfmkhbdoeglaaGreatDoor
open Go.RowKit Go.Shelf Go.Sort
attribute [local go_sem] Oper.semAt_some
def rD (k:K):List Value:=[.int .i64 k.1,.string ⟨k.2.toArray⟩]
theorem oL (a b:K):ltOf nX a b=pI a b:=by
 unfold ltOf pI
 unfold nX n9 o4
 rcases dO a.1 b.1 with h | h | h
 ·simp [h]
 ·have h1:¬a.1<b.1:=by omega
  have h2:¬b.1<a.1:=by omega
  by_cases h3:a.2<b.2
  ·simp [h,h3]
  ·by_cases h4:b.2<a.2
   ·simp [h,h3,h4]
   ·simp [h,h3,h4]
 ·have h1:¬a.1<b.1:=by omega
  have h2:¬a.1=b.1:=by omega
  simp [h,h1,h2]
theorem zl:SWO (ltOf nX) where
 irrefl x:=by rw [oL];exact qC x
 trans x y z h1 h2:=by rw [oL] at *;exact nJ h1 h2
 ntrans x y z h1 h2:=by
  rw [oL] at *
  cases h:pI x z with
  | false=>rfl
  | true =>
   rcases wT y x with e | e | e
   ·rw [nJ e h] at h2;cases h2
   ·subst e;rw [h] at h2;cases h2
   ·rw [e] at h1;cases h1
theorem wD (x y:K) (h1:ltOf nX x y=false) (h2:ltOf nX y x=false):x=y:=by
 rw [oL] at *
 rcases wT x y with e | e | e
 ·rw [e] at h1;cases h1
 ·exact e
 ·rw [e] at h2;cases h2
theorem kz (l:List K):(gN l).length=l.length*2:=by
 induction l with
 | nil=>rfl
 | cons k l ih=>simp [gN] at ih⊢;omega
theorem sE:∀ (l:List K) (t:Nat),t<l.length*2→(gN l)[t]?=some ((rD l.toArray[t / 2]!)[t%2]!)
 | [],t,h=>by simp at h
 | k::l,0,_=>by simp [gN,rD]
 | k::l,1,_=>by simp [gN,rD]
 | k::l,t+2,h=>by
  have ih:=sE l t (by simp at h;omega)
  have e:gN (k::l) = .int .i64 k.1 :: .string ⟨k.2.toArray⟩::gN l:=rfl
  rw [e,show (t+2) / 2=t / 2+1 by omega,show (t+2)%2=t%2 by omega]
  simp only [aX,ih]
  simp
theorem yZ (l:List K) (t:Nat) (h:t<l.length*2):(gN l)[t]?=some (flatK rD 2 l.toArray)[t]!:=by
 rw [sE l t h,get_flatK rD 2 l.toArray t (by simpa using h)]
theorem sH {α:Type} [Inhabited α] (enc : α→List Value) (k:Nat) (w:World) (b off m:Nat) (d:Array α) (os:Array Obj) {i:Nat} (h1:i<w.heap.size) (h2:i≠b):(sortWorldK enc k w b off m d os).heap[i]?=w.heap[i]?:=by
 unfold sortWorldK putRowK putRow mapBlock grow Sort.ahead
 simp only
 rw [eJ (by simpa using h1)]
 simp [eA,ea h2]
theorem sQ {α:Type} [Inhabited α] (enc : α→List Value) (k:Nat) (w:World) (b off m base:Nat) (d:Array α) (os:Array Obj) (h:base≤b) (j:base≤w.heap.size):Below base w (sortWorldK enc k w b off m d os) :=
 ⟨rfl,rfl,rfl,size_sortWorldK_c enc k w b off m d os,fun i l=>sH enc k w b off m d os (by omega) (by omega)⟩
theorem tP {α:Type} [Inhabited α] (enc : α→List Value) (k:Nat) (w:World) (b off m:Nat) (d:Array α) (os:Array Obj) {cs:Array Value} {t:TypeId} {fz:Nat×Nat} (h:w.heap[b]?=some (.cells cs t fz)):∃ i,(sortWorldK enc k w b off m d os).heap[b]?=some (.cells i t fz):=by
 have h1:=fw h
 refine ⟨putCells id off (flatK enc k d) cs,?_⟩
 unfold sortWorldK putRowK putRow mapBlock grow Sort.ahead
 simp only
 rw [eJ (by simpa using h1)]
 simp [eA,h,onCells]
def lp (w:World) (v:Value) (l:List K):Prop:=fH w v 2 l.length (gN l)∧∀ g,v.ownBlock=some g→∃ cs fz,w.heap[g]?=some (.cells cs 94 fz)
def sx (l:List K):List K:=l.mergeSort fun x y => !(ltOf nX) y x
theorem ux (l:List K):(sx l).Perm l:=List.mergeSort_perm _ _
theorem Ec {l:List K} {S:List E} (hs:SortedE S) (i:l.Perm (S.map (·.1))):sx l=S.map (·.1):=by
 have h1:(sx l).Pairwise fun x y=>(!(ltOf nX) y x)=true:=by
  refine List.pairwise_mergeSort (fun a b c h1 h2 => ?_) (fun a b => ?_) l
  ·simp only [eE] at *
   exact zl.ntrans _ _ _ h2 h1
  ·rw [oL,oL]
   cases h:pI a b with
   | true=>rw [mw h];rfl
   | false=>simp
 have h2:(S.map (·.1)).Pairwise fun x y=>(!(ltOf nX) y x)=true:=by
  refine dz.2 (List.Pairwise.imp (fun {a b} h => ?_) hs)
  rw [oL,mw h]
  rfl
 refine List.Perm.eq_of_pairwise (fun a b _ _ ha d => ?_) h1 h2 ((ux l).trans i)
 simp only [eE] at ha d
 exact wD a b d ha
theorem wP (xs:List K) (v:Value) (base:Nat) (w:World) (G:w.ownsRow base 94 2 v xs.length (gN xs)) (l:base≤w.heap.size) (Q:xs.length≤1000000000) :
  Calls Tryz.prog 130 #[v,.func (.func 93) #[] #[]] w fun e w'=>e = .returned (.tuple #[])∧lp w' v (sx xs)∧Below base w w':=by
 obtain ⟨hl,⟨rfl,I⟩ | ⟨g,cap,cur,rfl,u,b,R,hc,N,C⟩⟩:=G
 ·obtain rfl:xs=[]:=bT I
  have h:=AnyF.slices_SortFunc_none FY none 0 (.func (.func 93) #[] #[]) w
  refine Calls.mono (P:=Tryz.prog) h ?_
  rintro e w' ⟨rfl,rfl⟩
  exact ⟨rfl,⟨by have:=fH.nil w' none 2 0;simpa [sx,gN] using this,fun g u=>by simp [Value.ownBlock] at u⟩,Below.refl _ _⟩
 ·have d:=fw b
  have hH:HoldsK rD 2 w g 0 xs.toArray:=by
   intro j J
   have r:j<xs.length*2:=by simpa using J
   have hk:=yZ xs j r
   have:cur.toList[j]?=some (flatK rD 2 xs.toArray)[j]!:=by
    rw [←hk,←C,bh r]
   rw [bE]
   exact ⟨by rw [ae w g j cur _ _ b,←Array.getElem?_toList,this];rfl,aj w g j _ _ b⟩
  have M:∀ args w,(callFunc 93 args).run Tryz.prog w = .ok (.enter 93 args) w:=enters_of Tryz.func93 (by kernel_rfl) rfl
  have B:CmpLays Tryz.prog 93 #[] rD 2 nX g 0 xs.toArray.size w:=by
   intro m os S O x y
   exact wz x y _
  have h:=AnyQ.slices_SortFunc_total FY 2 Tryz.isAgg94 Tryz.sizeOf94 rD (fun _=>rfl) (fun x v D=>by simp [rD] at D;rcases D with rfl | rfl <;> rfl) nX zl 93 #[] g 0 cap xs.toArray w M B hH d (by simp;omega) wD
  rw [show xs.toArray.size=xs.length by simp] at h
  refine Calls.mono (P:=Tryz.prog) h ?_
  rintro e w' ⟨rfl,q,os,rfl⟩
  have s:=(ux xs).length_eq
  have E:=holdsK_sortWorldK_c rD 2 w g 0 xs.toArray (sx xs).toArray q os hH d (by simpa using s)
  refine ⟨rfl,⟨⟨by rw [kz],_,cap,by rw [s],by omega,fun i o=>⟨g,0,rfl,?_⟩⟩,fun U F=>by cases F;obtain ⟨cs,h⟩:=tP rD 2 w g 0 q (sx xs).toArray os b;exact ⟨cs,_,h⟩⟩,sQ rD 2 w g 0 q base _ os u l⟩
  rw [kz] at o
  have h3:=(E i (by simpa using o)).1
  have h4:=yZ (sx xs) i o
  refine h3.trans ?_
  rw [aw (by rw [kz];exact o)] at h4
  exact h4.symm
theorem yO (gf:Nat) (lb:Array Value) (j:∀ args w,(callFunc gf args).run Tryz.prog w = .ok (.enter gf args) w)
  (d l:List K→Prop) (N:Nat) (q:N≤1000000000) (w:World) (b:∀ n,1≤n→SeqStopsA Fence.wide n Tryz.prog gf lb (fun k:K=>#[kV k]) d l N w) (i:∀ xs,d xs→xs.length≤N) :
  Calls Tryz.prog 129 #[.func (.func gf) #[] lb] w fun e W'=>∃ v xs,e = .returned v∧d xs∧W'.ownsRow w.heap.size 94 2 v xs.length (gN xs)∧Below w.heap.size w W':=by
 have r:=ab (callsIn_wide.1 (vC Fence.wide 3 cI rfl (af _) gf lb cI j d l N q w (b 2 (by omega)) i))
 clear b i j
 go_enter Tryz.func129,Tryz.ntmps129
 go_wp2_with fail
 refine r.out.mono ?_
 rintro e w1 ⟨v,xs,rfl,m,o,s⟩
 have u:=ab o
 have x:=ab m
 clear o m
 go_wp2
 go_ret
 exact ⟨v,xs,rfl,x.out,u.out,s⟩
theorem mO (d b:Nat) (S:List E) (w:World) (q:d<w.heap.size) (hm:w.cell? ⟨d,0,none⟩=some (.map (some b))) (m:TabAt w b S) (D:S.length≤1000000000) :
  Calls Tryz.prog 91 #[.func (.func 131) #[] #[.pointer (some ⟨d,0,none⟩)],.func (.func 93) #[] #[]] w fun e w' =>
   ∃ v,e = .returned v∧lp w' v (S.map (·.1))∧Below w.heap.size w w':=by
 have F:=ab (yO 131 #[.pointer (some ⟨d,0,none⟩)] (enters_of Tryz.func131 (by kernel_rfl) rfl)
  (fun xs=>xs.Perm (S.map (·.1))) (fun _=>True) S.length D w (fun n G=>Ba Fence.wide n cI rfl G d b S w q hm m) (fun xs h=>by rw [h.length_eq,aG];exact af _))
 have r:=ab m.sorted
 clear m hm
 go_enter Tryz.func91,Tryz.ntmps91
 go_wp2_with fail
 refine F.out.mono ?_
 rintro e w1 ⟨v,xs,rfl,o,s,u⟩
 have x:xs.length=S.length:=by rw [o.length_eq,aG]
 have i:=Ec r.out o
 have y:=u.size
 have j:=ab (wP xs v w.heap.size w1 s y (by omega))
 rw [i] at j
 clear s o x i
 go_wp2_with fail
 refine j.out.mono ?_
 rintro e w2 ⟨rfl,l,B⟩
 have C:=ab l
 clear l
 go_wp2
 go_ret
 exact ⟨v,rfl,C.out,u.trans B⟩
end Go.Proofs.YtkkfmkhbdoeglaaGreatDoor
namespace Go.Proofs.YtkkfmkhbdoeglaaGreatDoor
open Go.RowKit
section
variable {P:Program} {ops:Array Oper} {md:Region.Mode} {w:World} {nF:Nat}
theorem uN {F:Fence} (hd:F.depth=none) (d:∀ f,F.fn f) (hc:∀ f args w R,Calls P f args w R→CallsIn F (nF-1) P f args w R) (q:∀ (i:Nat) o,ops[i]?=some o→∀ a:Act,o.semAt F.round a.eval=execOp a.eval o)
  {i:Nat} {a:Act} {K:Act→Prop} {j:Act→World→Prop} {Q':Exit→Act→World→Prop} (h:∀ a,K a→j a w) (b:stOp P ops w i K a):wpOpIn F nF P ops Q' i j a w:=by
 unfold stOp at b
 unfold wpOpIn
 split
 ·exact h _ (by simpa [*] using b)
 ·rename_i o l
  simp only [l] at b
  split
  ·rename_i hw
   simp only [hw,dF] at b
   unfold Oper.still at b
   unfold Oper.wpIn
   refine ⟨fun f _=>d f,?_⟩
   rw [q i o l a]
   generalize (execOp a.eval o).run P w=r at b
   cases r with
   | ok x w' =>
    cases x <;> simp only [Oper.stillUpon] at b <;> simp only [Oper.uponIn]
    case enter f args =>
     obtain ⟨rfl,v,m,s⟩:=b
     refine ⟨fun h=>by simp [hd] at h,hc _ _ _ _ (m.mono fun e u ⟨he,hw⟩ => ?_)⟩
     subst he
     subst hw
     exact h _ s
    all_goals (obtain ⟨rfl,h2⟩:=b;exact h _ h2)
   | halt x w'=>simp only [Oper.stillUpon] at b
  ·rename_i hw
   simp only [hw] at b
   exact ⟨fun f _=>d f,h _ b⟩
theorem oP {F:Fence} (hd:F.depth=none) (b:∀ f,F.fn f) (hc:∀ f args w R,Calls P f args w R→CallsIn F (nF-1) P f args w R) (d:∀ (i:Nat) o,ops[i]?=some o→∀ a:Act,o.semAt F.round a.eval=execOp a.eval o)
  {n g:Nat} {L:Array Bool→Act→Prop} {Q':Exit→Act→World→Prop} (j:∀ listed a,L listed a→wpAnyIn F nF P md ops Q' g listed a w) :
  ∀ (f:Nat) (listed:Array Bool) (a:Act),wpAnyL P md ops w n L f listed a→wpAnyIn F nF P md ops Q' (f+g) listed a w
 | 0,listed,a,h=>by rw [bE];exact j _ _ h
 | f+1,listed,a,h=>by
  rw [show f+1+g=(f+g)+1 by omega]
  exact ⟨fun l=>absurd l h.1,fun i m=>uN hd b hc d (fun q r=>oP hd b hc d j f _ q r) (h.2 i m).2⟩
theorem pB {F:Fence} {Q':Exit→Act→World→Prop} : ∀ (l:List Oper) (k:Nat) (listed:Array Bool) (a:Act) (w:World),(∀ j,l[j]?=ops[k+j]?)→
  Region.seqB md ops l.length k listed=true→wpListIn F nF P ops Q' l a w→wpAnyIn F nF P md ops Q' l.length listed a w
 | [],_,_,_,_,_,b,h=>⟨by simpa [Region.seqB] using b,h⟩
 | o::l,k,listed,a,w,hl,b,h=>by
  have q:ops[k]?=some o:=by simpa using (hl 0).symm
  simp only [ar,Region.seqB,dI,de] at b
  refine ⟨fun h1=>(by rw [b.1] at h1;cases h1),fun i d => ?_⟩
  rw [b.1] at d
  have m:i=k:=by simpa using d
  subst m
  have hw:wpOpIn F nF P ops Q' i (wpListIn F nF P ops Q' l) a w:=by unfold wpOpIn;simp only [q];exact h
  exact wpOpIn_mono (fun r w' s=>pB l (i+1) _ r w' (fun j=>by have:=hl (j+1);simpa [aY,Nat.add_comm 1 j] using this) b.2 s) hw
theorem nU {F:Fence} (hd:F.depth=none) (u:∀ f,F.fn f) (hc:∀ f args w R,Calls P f args w R→CallsIn F (nF-1) P f args w R)
  {id:Nat} {Q:Exit→Act→World→Prop} {a:Act} {w:World} {l:List Oper} (n:Nat) (hm:P.follows .mixedOrders=true) (G:∀ (i:Nat) o,l.toArray[i]?=some o→∀ a:Act,o.semAt F.round a.eval=execOp a.eval o) (x:Region.lexTailB .any l.toArray n=true)
  (h:wpStill P l.toArray {w with drawn:=w.drawn+1} (fun m=>wpListIn F nF P l.toArray Q (l.drop n) m {w with drawn:=w.drawn+1}) (l.take n) a):(Code.region id l.toArray true).wpIn F nF P Q a w:=by
 simp only [Region.lexTailB,dI,de] at x
 obtain ⟨⟨⟨⟨q,y⟩,hs⟩,B⟩,r⟩:=x
 have J:n<l.length:=by simpa using y
 have b:(l.take n).length=n:=by simp;omega
 have d:(l.drop n).length=l.toArray.size-n:=by simp
 have s:HeadInv .any l.toArray n (Array.replicate l.toArray.size false) :=
  ⟨by simp,fun j M _ hl=>(by rw [getD_replicate_false] at hl;cases hl),fun t _ I=>getD_in (by simpa using I) (getD_replicate_false _ _)⟩
 have H:=wpAnyL_lex (md := .any) (g:=l.toArray.size-n) q hs B y (l.take n) 0 _ a (fun j C=>by
  have D:j<n:=by rw [b] at C;exact C
  simp [D]) (by simpa using b) s (by rw [b];exact r) h
 refine wpIn_region_any hm ?_
 have:=oP (nF:=nF) (Q':=Q) (g:=l.toArray.size-n) hd u hc G (fun listed m E=>by
  have:=pB (nF:=nF) (md := .any) (F:=F) (Q':=Q) (l.drop n) n listed m {w with drawn:=w.drawn+1} (fun j=>by simp [dm]) (by rw [d];exact E.1) E.2
  rwa [d] at this) _ _ _ H
 rw [b,show n+(l.toArray.size-n)=l.toArray.size by omega] at this
 exact this
theorem oi {id:Nat} {Q:Exit→Act→World→Prop} {a:Act} {w:World} {l:List Oper} (n:Nat) (hm:P.follows .mixedOrders=true) (b:Region.lexTailB .any l.toArray n=true)
  (h:wpStill P l.toArray {w with drawn:=w.drawn+1} (fun d=>wpListIn Fence.wide nF P l.toArray Q (l.drop n) d {w with drawn:=w.drawn+1}) (l.take n) a):(Code.region id l.toArray true).wpIn Fence.wide nF P Q a w :=
 nU rfl (fun _=>cI) (fun _ _ _ _ h=>callsIn_wide.2 h) n hm (fun _ _ _ _=>rfl) b h
end
end Go.Proofs.YtkkfmkhbdoeglaaGreatDoor
namespace Go.Proofs.YtkkfmkhbdoeglaaGreatDoor
open Go.RowKit Go.Shelf Go.Sort
attribute [local go_sem] Oper.semAt_some
theorem qL:∀ (l:List K) (i:Nat) (h:i<l.length),(gN l)[i*2]?=some (.int .i64 l[i].1)∧(gN l)[i*2+1]?=some (.string ⟨l[i].2.toArray⟩)
 | k::l,0,_=>⟨rfl,rfl⟩
 | k::l,i+1,h=>by
  have ih:=qL l i (by simpa using h)
  have e:gN (k::l) = .int .i64 k.1 :: .string ⟨k.2.toArray⟩::gN l:=rfl
  rw [e,show (i+1)*2=i*2+1+1 by omega,show i*2+1+1+1=(i*2+1)+1+1 by omega]
  simpa using ih
theorem lp.opened {w:World} {v:Value} {l:List K} (h:lp w v l) :
  ∃ a cap,v = .slice a l.length cap∧l.length≤cap∧∀ i (h:i<l.length),∃ b off,a=some ⟨b,off,none⟩∧w.cell? ⟨b,off+i*2,none⟩=some (.int .i64 l[i].1)∧w.cell? ⟨b,off+i*2+1,none⟩=some (.string ⟨l[i].2.toArray⟩):=by
 obtain ⟨⟨_,a,cap,rfl,hc,d⟩,-⟩:=h
 refine ⟨a,cap,rfl,hc,fun i m => ?_⟩
 have hl:=kz l
 obtain ⟨j,h1⟩:=qL l i m
 obtain ⟨b,off,rfl,c0⟩:=d (i*2) (by omega)
 obtain ⟨q,r,o,c1⟩:=d (i*2+1) (by omega)
 cases o
 rw [aw (by omega)] at j h1
 exact ⟨b,off,rfl,c0.trans j,(by rw [←aY] at c1;exact c1.trans h1)⟩
structure gC (x y z:Nat) (W W':World):Prop where
 size:W.heap.size≤W'.heap.size
 three:∀ k,k=x∨k=y∨k=z→W'.heap[k]?=W.heap[k]?
 keys:∀ (k:Nat) (cs:Array Value) (fz:Nat×Nat),W.heap[k]?=some (Obj.cells cs 94 fz)→W'.heap[k]?=some (Obj.cells cs 94 fz)
theorem gC.refl {x y z:Nat} (W:World):gC x y z W W:=⟨af _,fun _ _=>rfl,fun _ _ _ h=>h⟩
theorem gC.trans {x y z:Nat} {A B C:World} (h:gC x y z A B) (k:gC x y z B C):gC x y z A C :=
 ⟨aH h.size k.size,fun i b=>(k.three i b).trans (h.three i b),fun i cs fz b=>k.keys i cs fz (h.keys i cs fz b)⟩
theorem lp.kept {w w':World} {x y z:Nat} {v:Value} {l:List K} (h:lp w v l) (hk:gC x y z w w'):lp w' v l:=by
 obtain ⟨h1,h2⟩:=h
 refine ⟨h1.frame fun b d _ => ?_,fun g i => ?_⟩
 ·obtain ⟨cs,fz,h⟩:=h2 b d
  rw [h,hk.keys b cs fz h]
 ·obtain ⟨cs,fz,h⟩:=h2 g i
  exact ⟨cs,fz,hk.keys g cs fz h⟩
theorem gC.fS {x y z:Nat} {W W':World} (h:Below W.heap.size W W') (b:x<W.heap.size) (d:y<W.heap.size) (i:z<W.heap.size):gC x y z W W' :=
 ⟨h.size,fun k hk=>h.block k (by rcases hk with rfl | rfl | rfl <;> assumption),fun k cs fz hk=>(h.block k (fw hk)).trans hk⟩
theorem EntAt.kept {w w':World} {x q off r:Nat} {S:List E} (h:EntAt w q off r S) (hk:gC x q r w w'):EntAt w' q off r S :=
 ⟨(aQ (a:=⟨q,off,none⟩) (hk.three q (.inr (.inl rfl)))).trans h.cell,h.tab.fP (hk.three r (.inr (.inr rfl)))⟩
theorem oN (s:ByteArray) (w:World):(Instr.field 180 (.agg #[.string s]) 0).run Tryz.prog w = .ok (.string s) w:=by kernel_rfl
theorem qw (r:Nat) (w:World):Calls Tryz.prog 92 #[.map (some r)] w fun e w' =>
  e = .returned (.func (.func 131) #[] #[.pointer (some ⟨w.heap.size,0,none⟩)])∧w'=w.alloc (.cells #[.map (some r)] 107):=by
 go_enter Tryz.func92,Tryz.ntmps92
 go_wp2
 go_ret
 exact ⟨rfl,rfl⟩
theorem mR {β:Type} (f : β→E) (Y:List β) (n:Nat) (b q off r:Nat) (S:List E) (I:Y.map f=S) (w:World) (bb:b<w.heap.size) (hm:w.cell? ⟨b,0,none⟩=some (.pointer (some ⟨q,off,none⟩))) (he:EntAt w q off r S) (hS:S.length≤1000000000) :
  SeqStopsK Fence.wide n Tryz.prog 90 #[.pointer (some ⟨b,0,none⟩)] (fun y : β=>#[kV (f y).1,.string ⟨(f y).2.toArray⟩]) (gC b q r) (fun xs=>xs=Y) (fun pre=>pre <+: Y) S.length w:=by
 intro l J Jx W hW hJ b5 hY h0
 have V:Y.length=S.length:=by rw [←I,aG]
 have bd:=ab I
 have X:=ab V
 clear I V
 have m:=he.below hW
 have Z:W.cell? ⟨b,0,none⟩=some (.pointer (some ⟨q,off,none⟩)):=(hW.cell (p:=⟨b,0,none⟩) bb).trans hm
 have b6:=hW.size
 have a6:b<W.heap.size:=by omega
 have b7:=m.lt
 have b8:=m.tab.lt
 have hc:=m.cell
 have HE:=ab m
 clear he hm m
 have aa:Below W.heap.size W (W.alloc (.cells #[.map (some r)] 107)):=(Below.refl _ W).alloc (af _) _
 have ag:=ab (mO W.heap.size r S (W.alloc (.cells #[.map (some r)] 107)) (by simp) (ae _ _ 0 _ _ _ (fA W (.cells #[.map (some r)] 107))) (HE.out.below aa).tab hS)
 refine callsIn_of_wp Tryz.func90 rfl cI ?_ rfl
 try simp only [Tryz.ntmps90,dy,ar,aM,Nat.reduceAdd,Nat.reduceSub,aZ,bm,bJ,dB,aO,aV]
 gi_wp2_with (first
  | (refine ⟨cI,(fun h=>by simp [Fence.wide] at h),(callsIn_wide.2 (qw r W)).mono ?_⟩;rintro e w0 ⟨rfl,rfl⟩)
  | (refine ⟨cI,(fun h=>by simp [Fence.wide] at h),(callsIn_wide.2 ag.out).mono ?_⟩;rintro e w1 ⟨v,rfl,D,ak⟩;obtain ⟨sa,a7,rfl,-,-⟩:=D.opened;rw [aG] at *))
 have d:Below W.heap.size W w1:=aa.trans (ak.mono (by simp))
 have ca:=d.size
 have hmx:S.length≤a7:=by obtain ⟨a',c',e,h,-⟩:=D.opened;obtain ⟨-,-,rfl⟩:=Value.slice.inj e;simpa using h
 have bk:=ab D
 have al:=ab (HE.out.below d)
 have HJ:=ab hJ
 have bn:Hid (w1.cell? ⟨b,0,none⟩=some (.pointer (some ⟨q,off,none⟩))):=ab ((d.cell (p:=⟨b,0,none⟩) a6).trans Z)
 have am:J [] w1:=hJ [] W w1 none h0 ⟨d.os,d.tape,d.output,d.size,fun k hk _=>d.block k hk⟩ (fun r e=>by cases e)
 clear D hc Z ag ak
 gi_loopw [12] (fun i wr=>∃ k:Nat,k≤S.length∧i = .int .i64 (k:Int)∧gC b q r w1 wr∧J (Y.take k) wr) (fun i _=>S.length-(intOf i).toNat)
 case atStart=>exact ⟨0,aK _,rfl,gC.refl _,am⟩
 case round =>
  clear am
  obtain ⟨k,hk,rfl,o,M⟩:=hrel
  have cb:=o.size
  by_cases N:k<S.length
  ·have g1:(k:Int)<S.length:=by omega
   obtain ⟨ce,bX,e,-,hx⟩:=(bk.out.kept o).opened
   obtain ⟨rfl,-,rfl⟩:=Value.slice.inj e
   obtain ⟨kb,ko,rfl,c0,c1⟩:=hx k (by simpa using N)
   obtain ⟨x,F⟩:∃ x,x=S[k]:=⟨_,rfl⟩
   have O:k<Y.length:=by rw [X.out];exact N
   obtain ⟨y,Q⟩:∃ y,y=Y[k]:=⟨_,rfl⟩
   have ap:f y=x:=by rw [Q,F];have h1:=bd.out;subst h1;rw [eL]
   rw [eL,←F] at c0 c1
   obtain ⟨⟨T,B⟩,VB⟩:=x
   simp only at c0 c1
   have R:=ab (al.out.kept o)
   have hg:jb (T,B) S=some VB:=(nj al.out.tab.sorted.keys _ _).2 (by rw [F];exact cL N)
   have av:Y.take (k+1)=Y.take k++[y]:=by rw [Q];exact (List.take_append_getElem O).symm
   have bt:=ab ap
   have ci:=ab O
   have aE:=ab av
   have U:wr.cell? ⟨b,0,none⟩=some (.pointer (some ⟨q,off,none⟩)):=(aQ (a:=⟨b,0,none⟩) (o.three b (.inl rfl))).trans bn.out
   have a0:=R.out.cell
   have a1:=fE U
   have bv:=fE a0
   have cl:=fE c0
   have s:Below wr.heap.size wr (wr.alloc (.cells #[.int .i64 T,.string ⟨B.toArray⟩] 94)):=(Below.refl _ wr).alloc (af _) _
   have bw:=ab U
   have bx:=hg
   clear F av hg hx hk Q ap O
   have HG:=ab bx
   gi_wp2
   have C:=fA wr (.cells #[.int .i64 T,.string ⟨B.toArray⟩] 94)
   have bz:(wr.alloc (.cells #[.int .i64 T,.string ⟨B.toArray⟩] 94)).heap.size=wr.heap.size+1:=by simp
   have a2:Hid (J (Y.take k) (wr.alloc (.cells #[.int .i64 T,.string ⟨B.toArray⟩] 94))):=ab (HJ.out _ wr _ none M (dC wr _ none) (fun r e=>by cases e))
   generalize a3:wr.alloc (.cells #[.int .i64 T,.string ⟨B.toArray⟩] 94)=u
   rw [a3] at s C bz a2
   clear a3 c0 c1 U a0
   have a4:=ab (R.out.below s)
   have bD:u.cell? ⟨b,0,none⟩=some (.pointer (some ⟨q,off,none⟩)):=(s.cell (p:=⟨b,0,none⟩) a1).trans bw.out
   have bH:=a4.out.cell
   have bI:=oN ⟨VB.toArray⟩ u.drew
   have j:=TabAt.lookup (w:=u.drew) (a4.out.tab.fP rfl) (mt:=107) Tryz.underlying107 (qH _) (T,B)
   rw [HG.out] at j
   simp only [kV,iD,kc,bF] at j
   have d0:=ae _ _ 0 _ _ _ C
   have d1:=ae _ _ 1 _ _ _ C
   refine oi 9 (by kernel_rfl) (by kernel_rfl) ?_
   simp only [bj,bY,eN,cw]
   repeat still_step
   refine wpStill_nil ?_
   have bL:J (Y.take k) u.drew:=HJ.out _ u _ none a2.out ⟨rfl,rfl,rfl,af _,fun _ _ _=>rfl⟩ (fun r e=>by cases e)
   obtain ⟨fn,tmps,assign,body,hy,hR⟩:=hY (Y.take k) y u.drew bL (by rw [aD];omega)
   rw [bt.out] at hy
   simp only [kV,iD] at hy
   have bN:gC b q r w1 u.drew:=o.trans (gC.trans (gC.fS s a1 bv R.out.tab.lt) ⟨af _,fun _ _=>rfl,fun _ _ _ h=>h⟩)
   clear j d0 d1 bD bH bI
   have co:wr.heap.size≤u.drew.heap.size:=s.size
   gi_wp2
   refine ⟨(fun h=>by simp [Fence.wide] at h),hR.mono ?_⟩
   rintro e W3 (⟨rfl,bP,bS⟩ | ⟨rfl,a9⟩)
   ·gi_wp2
    have G:∃ k':Nat,k'≤S.length∧Value.int .i64 ((k:Int)+1) = .int .i64 (k':Int)∧gC b q r w1 W3∧J (Y.take k') W3:=⟨k+1,by omega,rfl,bN.trans bS,by rw [aE.out];exact bP⟩
    simp only [aG]
    refine ⟨?_,?_⟩
    ·first
      | exact G
      | ((repeat apply Exists.intro);exact ⟨G,rfl⟩)
    ·simp [intOf]
     omega
   ·gi_wp2
    refine aI (dA rfl _ _ _) rfl ?_
    exact ⟨⟨_,rfl⟩,.inr ⟨_,(by rw [←aE.out];exact List.take_prefix _ _),a9⟩⟩
  ·obtain rfl:k=S.length:=by omega
   have g1:¬(S.length:Int)<S.length:=by omega
   gi_wp2
   go_end0
   rw [←X.out,bp] at M
   exact ⟨⟨_,rfl⟩,.inl M⟩
theorem vr (n:Nat) (b q off r:Nat) (S:List E) (w:World) (d:b<w.heap.size) (hm:w.cell? ⟨b,0,none⟩=some (.pointer (some ⟨q,off,none⟩))) (he:EntAt w q off r S) (i:S.length≤1000000000) :
  SeqStopsK Fence.wide n Tryz.prog 90 #[.pointer (some ⟨b,0,none⟩)] (fun x:E=>#[kV x.1,.string ⟨x.2.toArray⟩]) (gC b q r) (fun xs=>xs=S) (fun pre=>pre <+: S) S.length w :=
 mR id S n b q off r S (List.map_id S) w d hm he i
end Go.Proofs.YtkkfmkhbdoeglaaGreatDoor
namespace Go.Proofs.YtkkfmkhbdoeglaaGreatDoor
open Go.RowKit Go.Shelf Go.Sort
theorem vA (g:Nat) (cb:Array Value) (eg:∀ args w,(callFunc g args).run Tryz.prog w = .ok (.enter g args) w) (d q off r:Nat) (S:List E) (J Jx:List E→World→Prop) (hJ:∀ s A B,J s A→A.grownBy B none→J s B)
  (hG:∀ pre x W1,J pre W1→pre++[x] <+: S→Calls Tryz.prog g (#[kV x.1,.string ⟨x.2.toArray⟩]++cb) W1 fun e W'=>(e = .returned (.bool true)∧J (pre++[x]) W'∧gC d q r W1 W')∨(e = .returned (.bool false)∧Jx (pre++[x]) W'))
  (W:World) (a0:d<W.heap.size) (U:W.cell? ⟨d,0,none⟩=some (.pointer (some ⟨q,off,none⟩))) (m:EntAt W q off r S) (hS:S.length≤1000000000) (h0:J [] W) :
  Calls Tryz.prog 90 #[.func (.func g) #[] cb,.pointer (some ⟨d,0,none⟩)] W fun e W'=>(∃ v,e = .returned v)∧(J S W'∨∃ pre,pre <+: S∧Jx pre W'):=by
 have bP:=m.lt
 have bS:=m.tab.lt
 have hc:=m.cell
 have HE:=ab m
 clear m
 have V:Below W.heap.size W (W.alloc (.cells #[.map (some r)] 107)):=(Below.refl _ W).alloc (af _) _
 have X:=ab (mO W.heap.size r S (W.alloc (.cells #[.map (some r)] 107)) (by simp) (ae _ _ 0 _ _ _ (fA W (.cells #[.map (some r)] 107))) (HE.out.below V).tab hS)
 go_enter Tryz.func90,Tryz.ntmps90
 go_wp2_with (first
  | (go_at_call 92;refine (qw r W).mono ?_;rintro e w0 ⟨rfl,rfl⟩)
  | (go_at_call 91;refine X.out.mono ?_;rintro e w1 ⟨v,rfl,D,Y⟩;obtain ⟨sa,a1,rfl,-,-⟩:=D.opened;rw [aG] at *))
 have b:Below W.heap.size W w1:=V.trans (Y.mono (by simp))
 have bX:=b.size
 have hmx:S.length≤a1:=by obtain ⟨a',c',e,h,-⟩:=D.opened;obtain ⟨-,-,rfl⟩:=Value.slice.inj e;simpa using h
 have ba:=ab D
 have Z:=ab (HE.out.below b)
 have HJ:=ab hJ
 have bc:Hid (w1.cell? ⟨d,0,none⟩=some (.pointer (some ⟨q,off,none⟩))):=ab ((b.cell (p:=⟨d,0,none⟩) a0).trans U)
 have aa:J [] w1:=hJ [] W w1 h0 ⟨b.os,b.tape,b.output,b.size,fun k hk _=>b.block k hk⟩
 clear D hc U X Y
 go_loopw [12] (fun i wr=>∃ k:Nat,k≤S.length∧i = .int .i64 (k:Int)∧gC d q r w1 wr∧J (S.take k) wr) (fun i _=>S.length-(intOf i).toNat)
 case atStart=>exact ⟨0,aK _,rfl,gC.refl _,aa⟩
 case round =>
  clear aa
  obtain ⟨k,hk,rfl,o,I⟩:=hrel
  have b0:=o.size
  by_cases M:k<S.length
  ·have g1:(k:Int)<S.length:=by omega
   obtain ⟨b1,bH,e,-,hx⟩:=(ba.out.kept o).opened
   obtain ⟨rfl,-,rfl⟩:=Value.slice.inj e
   obtain ⟨kb,ko,rfl,c0,c1⟩:=hx k (by simpa using M)
   obtain ⟨x,F⟩:∃ x,x=S[k]:=⟨_,rfl⟩
   rw [eL,←F] at c0 c1
   obtain ⟨⟨T,j⟩,R⟩:=x
   simp only at c0 c1
   have N:=ab (Z.out.kept o)
   have hg:jb (T,j) S=some R:=(nj Z.out.tab.sorted.keys _ _).2 (by rw [F];exact cL M)
   have ag:S.take (k+1)=S.take k++[((T,j),R)]:=by rw [F];exact (List.take_append_getElem M).symm
   have O:=ab ag
   have Q:wr.cell? ⟨d,0,none⟩=some (.pointer (some ⟨q,off,none⟩)):=(aQ (a:=⟨d,0,none⟩) (o.three d (.inl rfl))).trans bc.out
   have ak:=N.out.cell
   have al:=fE Q
   have bk:=fE ak
   have b2:=fE c0
   have u:Below wr.heap.size wr (wr.alloc (.cells #[.int .i64 T,.string ⟨j.toArray⟩] 94)):=(Below.refl _ wr).alloc (af _) _
   have bl:=ab Q
   have bn:=hg
   clear F ag hg hx hk
   have HG:=ab bn
   go_wp2
   have C:=fA wr (.cells #[.int .i64 T,.string ⟨j.toArray⟩] 94)
   have bo:(wr.alloc (.cells #[.int .i64 T,.string ⟨j.toArray⟩] 94)).heap.size=wr.heap.size+1:=by simp
   have am:Hid (J (S.take k) (wr.alloc (.cells #[.int .i64 T,.string ⟨j.toArray⟩] 94))):=ab (HJ.out _ wr _ I (dC wr _ none))
   generalize ap:wr.alloc (.cells #[.int .i64 T,.string ⟨j.toArray⟩] 94)=y
   rw [ap] at u C bo am
   clear ap c0 c1 Q ak
   have av:=ab (N.out.below u)
   have br:y.cell? ⟨d,0,none⟩=some (.pointer (some ⟨q,off,none⟩)):=(u.cell (p:=⟨d,0,none⟩) al).trans bl.out
   have bs:=av.out.cell
   have bt:=oN ⟨R.toArray⟩ y.drew
   have l:=TabAt.lookup (w:=y.drew) (av.out.tab.fP rfl) (mt:=107) Tryz.underlying107 (qH _) (T,j)
   rw [HG.out] at l
   simp only [kV,iD,kc,bF] at l
   have d0:=ae _ _ 0 _ _ _ C
   have d1:=ae _ _ 1 _ _ _ C
   refine wp_region_still_tail 9 (by kernel_rfl) (by kernel_rfl) ?_
   simp only [bj,bY,eN,cw]
   repeat still_step
   refine wpStill_nil ?_
   have bv:J (S.take k) y.drew:=HJ.out _ y _ am.out ⟨rfl,rfl,rfl,af _,fun _ _ _=>rfl⟩
   have hR:=hG (S.take k) ((T,j),R) y.drew bv (by rw [←O.out];exact List.take_prefix _ _)
   simp only [kV,iD] at hR
   have HR:=ab hR
   clear hR
   have bw:gC d q r w1 y.drew:=o.trans (gC.trans (gC.fS u al bk N.out.tab.lt) ⟨af _,fun _ _=>rfl,fun _ _ _ h=>h⟩)
   clear l d0 d1 br bs bt
   have b3:wr.heap.size≤y.drew.heap.size:=u.size
   go_wp2
   refine HR.out.mono ?_
   rintro e W3 (⟨rfl,bz,bD⟩ | ⟨rfl,a3⟩)
   ·go_wp2
    have G:∃ k':Nat,k'≤S.length∧Value.int .i64 ((k:Int)+1) = .int .i64 (k':Int)∧gC d q r w1 W3∧J (S.take k') W3:=⟨k+1,by omega,rfl,bw.trans bD,by rw [O.out];exact bz⟩
    simp only [aG]
    refine ⟨?_,?_⟩
    ·first
      | exact G
      | ((repeat apply Exists.intro);exact ⟨G,rfl⟩)
    ·simp [intOf]
     omega
   ·go_wp2
    refine aI (dA rfl _ _ _) rfl ?_
    exact ⟨⟨_,rfl⟩,.inr ⟨_,(by rw [←O.out];exact List.take_prefix _ _),a3⟩⟩
  ·obtain rfl:k=S.length:=by omega
   have g1:¬(S.length:Int)<S.length:=by omega
   go_wp2
   go_end0
   rw [bp] at I
   exact ⟨⟨_,rfl⟩,.inl I⟩
end Go.Proofs.YtkkfmkhbdoeglaaGreatDoor
