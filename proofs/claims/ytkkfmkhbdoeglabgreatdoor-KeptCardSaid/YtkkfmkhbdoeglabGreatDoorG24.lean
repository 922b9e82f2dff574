/- A part of what is proved here: lemmas and contracts of single functions. No condition but those that each names. -/
import Derived.Test.YtkkfmkhbdoeglabGreatDoorG00
import Derived.Laws.CopyOwn
import Derived.Test.YtkkfmkhbdoeglabGreatDoorG20
set_option maxHeartbeats 4000000
set_option maxRecDepth 100000
namespace Go.Proofs.YtkkfmkhbdoeglabGreatDoor
open Go.RowKit
def jn (w:World) (F:Nat→Prop) (v:Value) (b:List UInt8):Prop:=BytesAt w v b∧CellsOf w v 5∧∀ k,v.ownBlock=some k→F k
def RowsAt (w:World) (F:Nat→Prop) (v:Value) (rows:List (List UInt8)):Prop :=
 ∃ vals:List Value,OwnS w 0 1 v rows.length vals∧CellsOf w v 112∧(∀ k,v.ownBlock=some k→F k)∧∀ (i:Nat) (b:List UInt8),rows[i]?=some b→∃ u,vals[i]?=some u∧jn w F u b
def rp (late:List (List UInt8×Nat)) (vals:List Value):List Value:=(late.zip vals).flatMap fun x=>[.int .i64 (x.1.2:Int),x.2]
def LateAt (w:World) (F:Nat→Prop) (v:Value) (late:List (List UInt8×Nat)):Prop :=
 ∃ vals:List Value,vals.length=late.length∧OwnS w 0 2 v late.length (rp late vals)∧CellsOf w v 157∧(∀ k,v.ownBlock=some k→F k)∧∀ (i:Nat) (b:List UInt8×Nat),late[i]?=some b→∃ u,vals[i]?=some u∧jn w F u b.1
structure gT (w:World) (F:Nat→Prop) (h:Nat) (x:HV) (H:fP):Prop where
 dp:DpAt w 0 h x H.dp
 fail:x.fail=H.fail
 writes:x.writes=H.writes
 held:RowsAt w F x.held H.held
 seen:RowsAt w F x.seen H.seen
 late:LateAt w F x.late H.late
 apart:∀ k,x.held.ownBlock=some k→x.seen.ownBlock≠some k
 foot:F h∧F x.r∧∀ k,x.log.ownBlock=some k→F k
 lt:∀ k,F k→k<w.heap.size
def HostAt (w:World) (F:Nat→Prop) (h:Nat) (H:fP):Prop:=∃ x,gT w F h x H
def iy (w:World) (F S:Nat→Prop) (h:Nat) (H:fP) (w':World):Prop:=∃ F',HostAt w' F' h H∧(∀ k,F' k→F k∨w.heap.size≤k)∧Ext (fun k=>F k∨S k) w w'
theorem jn.gr {w w':World} {F:Nat→Prop} {v:Value} {b:List UInt8} (h:jn w F v b) (d:∀ k C fz,w.heap[k]?=some (.cells C 5 fz)→F k→w'.heap[k]?=w.heap[k]?):jn w' F v b:=by
 obtain ⟨h1,h2,h3⟩:=h
 have hk:∀ k,v.ownBlock=some k→k<w.heap.size→w'.heap[k]?=w.heap[k]?:=fun k e _=>by
  obtain ⟨C,fz,i⟩:=h2 k e
  exact d k C fz i (h3 k e)
 exact ⟨fW.frame h1 hk,h2.frame hk,h3⟩
theorem jn.mono {w:World} {F G:Nat→Prop} {v:Value} {b:List UInt8} (h:jn w F v b) (d:∀ k,F k→G k):jn w G v b:=⟨h.1,h.2.1,fun k e=>d k (h.2.2 k e)⟩
theorem RowsAt.tD {w w':World} {F:Nat→Prop} {v:Value} {rows:List (List UInt8)} (h:RowsAt w F v rows) (hs:w.heap.size≤w'.heap.size) (hk:∀ k,v.ownBlock=some k→k<w.heap.size→w'.heap[k]?=w.heap[k]?)
  (j:∀ k C fz,w.heap[k]?=some (.cells C 5 fz)→F k→w'.heap[k]?=w.heap[k]?):RowsAt w' F v rows:=by
 obtain ⟨vals,h1,h2,h3,h4⟩:=h
 refine ⟨vals,h1.frame hs hk,h2.frame hk,h3,fun i b l => ?_⟩
 obtain ⟨u,hu,d⟩:=h4 i b l
 exact ⟨u,hu,d.gr j⟩
theorem RowsAt.gr {w w':World} {F:Nat→Prop} {v:Value} {rows:List (List UInt8)} (h:RowsAt w F v rows) (hs:w.heap.size≤w'.heap.size)
  (d:∀ k C t fz,w.heap[k]?=some (.cells C t fz)→(t=5∨t=112)→F k→w'.heap[k]?=w.heap[k]?):RowsAt w' F v rows:=by
 have i:=h
 obtain ⟨vals,h1,h2,h3,h4⟩:=i
 exact h.tD hs (fun k e _=>by
  obtain ⟨C,fz,b⟩:=h2 k e
  exact d k C _ fz b (.inr rfl) (h3 k e)) fun k C fz b hF=>d k C _ fz b (.inl rfl) hF
theorem RowsAt.mono {w:World} {F G:Nat→Prop} {v:Value} {rows:List (List UInt8)} (h:RowsAt w F v rows) (j:∀ k,F k→G k):RowsAt w G v rows:=by
 obtain ⟨vals,h1,h2,h3,h4⟩:=h
 refine ⟨vals,h1,h2,fun k e=>j k (h3 k e),fun i b l => ?_⟩
 obtain ⟨u,hu,d⟩:=h4 i b l
 exact ⟨u,hu,d.mono j⟩
theorem LateAt.gr {w w':World} {F:Nat→Prop} {v:Value} {late:List (List UInt8×Nat)} (h:LateAt w F v late) (hs:w.heap.size≤w'.heap.size)
  (l:∀ k C t fz,w.heap[k]?=some (.cells C t fz)→(t=5∨t=157)→F k→w'.heap[k]?=w.heap[k]?):LateAt w' F v late:=by
 obtain ⟨vals,m,h1,h2,h3,h4⟩:=h
 have hk:∀ k,v.ownBlock=some k→k<w.heap.size→w'.heap[k]?=w.heap[k]?:=fun k e _=>by
  obtain ⟨C,fz,d⟩:=h2 k e
  exact l k C _ fz d (.inr rfl) (h3 k e)
 refine ⟨vals,m,h1.frame hs hk,h2.frame hk,h3,fun i b o => ?_⟩
 obtain ⟨u,hu,j⟩:=h4 i b o
 exact ⟨u,hu,j.gr fun k C fz d hF=>l k C _ fz d (.inl rfl) hF⟩
theorem LateAt.mono {w:World} {F G:Nat→Prop} {v:Value} {late:List (List UInt8×Nat)} (h:LateAt w F v late) (j:∀ k,F k→G k):LateAt w G v late:=by
 obtain ⟨vals,l,h1,h2,h3,h4⟩:=h
 refine ⟨vals,l,h1,h2,fun k e=>j k (h3 k e),fun i b m => ?_⟩
 obtain ⟨u,hu,d⟩:=h4 i b m
 exact ⟨u,hu,d.mono j⟩
theorem RowsAt.get {w:World} {F:Nat→Prop} {v:Value} {rows:List (List UInt8)} (h:RowsAt w F v rows):∃ g cap,v = .slice g rows.length cap∧rows.length≤cap∧∀ (i:Nat) (b:List UInt8),rows[i]?=some b→∃ g0 off u,g=some ⟨g0,off,none⟩∧w.cell? ⟨g0,off+i,none⟩=some u∧jn w F u b:=by
 obtain ⟨vals,h1,h2,h3,h4⟩:=h
 obtain ⟨hl,g,cap,j,hc,l⟩:=h1.sliceAt
 refine ⟨g,cap,j,hc,fun i b m => ?_⟩
 obtain ⟨u,hu,hs⟩:=h4 i b m
 obtain ⟨d,e⟩:=aF.1 hu
 obtain ⟨g0,off,o,q⟩:=l i d
 exact ⟨g0,off,u,o,by rw [q,e],hs⟩
theorem gT.frame {w w':World} {F:Nat→Prop} {h:Nat} {x:HV} {H:fP} (b:gT w F h x H) (hs:w.heap.size≤w'.heap.size) (d:∀ k,F k→w'.heap[k]?=w.heap[k]?):gT w' F h x H:=by
 obtain ⟨f1,f2,f3⟩:=b.foot
 have hd:=b.dp
 exact ⟨⟨hd.row.gr (d _ f1),hd.left,hd.dead,hd.room,hd.tab.gr (d _ f2),hd.own.frame hs fun k e _=>d k (f3 k e),hd.ltyp.frame fun k e _=>d k (f3 k e),hd.lo,hd.lb⟩,b.fail,b.writes,
  b.held.gr hs fun k _ _ _ _ _ hF=>d k hF,b.seen.gr hs fun k _ _ _ _ _ hF=>d k hF,b.late.gr hs fun k _ _ _ _ _ hF=>d k hF,b.apart,b.foot,fun k hk=>aC (b.lt k hk) hs⟩
theorem HostAt.frame {w w':World} {F:Nat→Prop} {h:Nat} {H:fP} (b:HostAt w F h H) (hs:w.heap.size≤w'.heap.size) (d:∀ k,F k→w'.heap[k]?=w.heap[k]?):HostAt w' F h H:=by
 obtain ⟨x,i⟩:=b
 exact ⟨x,i.frame hs d⟩
theorem HostAt.lt {w:World} {F:Nat→Prop} {h:Nat} {H:fP} (b:HostAt w F h H):∀ k,F k→k<w.heap.size:=by
 obtain ⟨x,d⟩:=b
 exact d.lt
theorem HostAt.below {w w':World} {F:Nat→Prop} {h:Nat} {H:fP} (b:HostAt w F h H) (d:Below w.heap.size w w'):HostAt w' F h H:=b.frame d.size fun k hk=>d.block k (b.lt k hk)
theorem HostAt.ext {w w':World} {F S:Nat→Prop} {h:Nat} {H:fP} (b:HostAt w F h H) (d:Ext S w w') (i:∀ k,F k→¬S k):HostAt w' F h H:=b.frame d.size fun k hk=>d.block k (b.lt k hk) (i k hk)
theorem iy.start {w:World} {F S:Nat→Prop} {h:Nat} {H:fP} (b:HostAt w F h H):iy w F S h H w:=⟨F,b,fun _ => .inl,Ext.refl _ _⟩
theorem iy.below {w w1 w':World} {F S:Nat→Prop} {h:Nat} {H:fP} (d:iy w F S h H w1) (b:Below w1.heap.size w1 w'):iy w F S h H w':=by
 obtain ⟨F',h1,h2,h3⟩:=d
 exact ⟨F',h1.below b,h2,h3.trans (Ext.fT b)⟩
theorem iy.trans {w w1 w2:World} {F b S:Nat→Prop} {h:Nat} {d:fP} (h2:∀ k,b k→F k∨w.heap.size≤k) (h3:Ext (fun k=>F k∨S k) w w1) (i:iy w1 b S h d w2):iy w F S h d w2:=by
 obtain ⟨j,g1,g2,g3⟩:=i
 refine ⟨j,g1,fun k hk => ?_,h3.trans' g3 fun k hk => ?_⟩
 ·rcases g2 k hk with e | e
  ·exact h2 k e
  ·exact .inr (aH h3.size e)
 ·rcases hk with e | e
  ·exact (h2 k e).imp .inl id
  ·exact .inl (.inr e)
theorem mo (h:Nat) (x:HV) (w:World) (d:HostIs w h x) (lo : -1≤x.fail) (u:x.fail≤9223372036854775807) :
  Calls Tryz.prog 241 #[.pointer (some ⟨h,0,none⟩)] w fun e w'=>e = .returned (.bool (decide (x.fail=0)))∧HostIs w' h {x with fail:=if x.fail<0 then x.fail else x.fail-1}∧w'.heap.size=w.heap.size∧Ext (fun i=>i=h) w w':=by
 obtain ⟨a0,a1,a2,n,j,b,wr,r0,r1,r2,r,lv⟩:=x
 unfold HostIs HV.cells at d⊢
 simp only at lo u d⊢
 have c4:=ae _ _ 4 _ _ _ d
 have f4:=aj _ _ 4 _ _ d
 have B:=fO d
 have s:∀ v:Value,Hid ((w.setCell ⟨h,4,none⟩ v).heap[h]?=some (.cells #[a0,a1,a2,.int .i64 n,v,.bool b,.int .i64 wr,.int .i64 r0,.int .i64 r1,.int .i64 r2,.map (some r),lv] 125)∧(w.setCell ⟨h,4,none⟩ v).heap.size=w.heap.size∧Ext (fun i=>i=h) w (w.setCell ⟨h,4,none⟩ v)) :=
  fun v=>ab ⟨heap_setCell _ _ 4 v d,size_setCell _ _ _,(Ext.refl _ w).setCell _ _ (.inl rfl)⟩
 have y:=ab d
 clear d
 go_enter Tryz.func241,Tryz.ntmps241
 rcases dU j 0 with l | l | l
 ·have e:decide (j=0)=false:=by simp;omega
  rw [aD l,e]
  go_wp2
  go_ret
  exact ⟨rfl,y.out,rfl,Ext.refl _ _⟩
 ·subst l
  rw [au (by omega)]
  go_wp2
  go_ret
  obtain ⟨m,o,q⟩:=(s (.int .i64 (-1))).out
  exact ⟨rfl,m,o,q⟩
 ·have e:decide (j=0)=false:=by simp;omega
  have C:decide (j-1<0)=false:=by simp;omega
  rw [au (by omega),e]
  go_wp2
  go_ret
  obtain ⟨m,o,q⟩:=(s (.int .i64 (j-1))).out
  exact ⟨rfl,m,o,q⟩
theorem gT.IZ {w w1:World} {F:Nat→Prop} {h:Nat} {x x':HV} {H H':fP} (b:gT w F h x H) (h1:HostIs w1 h x') (hs:w1.heap.size=w.heap.size) (u:Ext (fun i=>i=h) w w1)
  (y:x'.held=x.held∧x'.seen=x.seen∧x'.r=x.r∧x'.log=x.log∧x'.room=x.room) (B:H'.held=H.held∧H'.seen=H.seen∧H'.dp.S=H.dp.S∧H'.dp.log=H.dp.log∧H'.dp.room=H.dp.room)
  (D:x'.left=H'.dp.left∧x'.dead=H'.dp.dead∧x'.fail=H'.fail∧x'.writes=H'.writes) (lb : -1≤H'.dp.left∧H'.dp.left≤9223372036854775807) (l:LateAt w1 F x'.late H'.late):gT w1 F h x' H':=by
 obtain ⟨f1,f2,f3⟩:=b.foot
 have hd:=b.dp
 have s:∀ k,k<w.heap.size→k≠h→w1.heap[k]?=w.heap[k]?:=fun k hk d=>u.block k hk d
 have j:w.heap[h]?=_:=hd.row
 have m:∀ (k:Nat) (C:Array Value) (t:TypeId) (fz:Nat×Nat),w.heap[k]?=some (Obj.cells C t fz)→t≠125→w1.heap[k]?=w.heap[k]?:=fun k C t fz hk d=>s k (fO hk) fun e=>by
  rw [e,j] at hk
  cases hk
  exact d rfl
 have hle:w.heap.size≤w1.heap.size:=by omega
 obtain ⟨a1,a2,a4,a5,E⟩:=y
 obtain ⟨G,I,J,M,N⟩:=B
 obtain ⟨d1,d2,d3,d4⟩:=D
 refine ⟨⟨h1,d1,d2,by rw [E,N];exact hd.room,?_,?_,?_,⟨aM _,aM _⟩,lb⟩,d3,d4,?_,?_,l,by rw [a1,a2];exact b.apart,by rw [a4,a5];exact b.foot,fun k hk=>aC (b.lt k hk) hle⟩
 ·rw [a4,J]
  exact hd.tab.gr (s _ hd.tab.lt fun e=>hd.tab.jZ j e.symm)
 ·rw [a5,M]
  exact hd.own.frame hle fun k e _=>by
   obtain ⟨C,fz,o⟩:=hd.ltyp k e
   exact m k C _ fz o (by decide)
 ·rw [a5]
  exact hd.ltyp.frame fun k e _=>by
   obtain ⟨C,fz,o⟩:=hd.ltyp k e
   exact m k C _ fz o (by decide)
 ·rw [a1,G]
  exact b.held.gr hle fun k C t fz hk q _=>m k C t fz hk (by rcases q with rfl | rfl <;> decide)
 ·rw [a2,I]
  exact b.seen.gr hle fun k C t fz hk q _=>m k C t fz hk (by rcases q with rfl | rfl <;> decide)
theorem gT.row {w w1:World} {F:Nat→Prop} {h:Nat} {x x':HV} {H H':fP} (d:gT w F h x H) (h1:HostIs w1 h x') (hs:w1.heap.size=w.heap.size) (l:Ext (fun i=>i=h) w w1)
  (m:x'.held=x.held∧x'.seen=x.seen∧x'.late=x.late∧x'.r=x.r∧x'.log=x.log∧x'.room=x.room) (o:H'.held=H.held∧H'.seen=H.seen∧H'.late=H.late∧H'.dp.S=H.dp.S∧H'.dp.log=H.dp.log∧H'.dp.room=H.dp.room)
  (q:x'.left=H'.dp.left∧x'.dead=H'.dp.dead∧x'.fail=H'.fail∧x'.writes=H'.writes) (lb : -1≤H'.dp.left∧H'.dp.left≤9223372036854775807):gT w1 F h x' H':=by
 have j:w.heap[h]?=_:=d.dp.row
 obtain ⟨a1,a2,a3,a4,a5,s⟩:=m
 obtain ⟨u,y,B,D,E,G⟩:=o
 refine d.IZ h1 hs l ⟨a1,a2,a4,a5,s⟩ ⟨u,y,D,E,G⟩ q lb ?_
 rw [a3,B]
 exact d.late.gr (by omega) fun k C t fz hk b _=>l.block k (fO hk) fun e=>by
  have I:k=h:=e
  rw [I,j] at hk
  cases hk
  rcases b with b | b <;> exact absurd b (by decide)
theorem gT.asked {w w1:World} {F:Nat→Prop} {h:Nat} {x:HV} {H:fP} (b:gT w F h x H) (h1:HostIs w1 h {x with fail:=if x.fail<0 then x.fail else x.fail-1}) (hs:w1.heap.size=w.heap.size) (d:Ext (fun i=>i=h) w w1) :
  gT w1 F h {x with fail:=if x.fail<0 then x.fail else x.fail-1} H.asked:=by
 refine b.row h1 hs d ⟨rfl,rfl,rfl,rfl,rfl,rfl⟩ ⟨rfl,rfl,rfl,rfl,rfl,rfl⟩ ⟨b.dp.left,b.dp.dead,?_,b.writes⟩ b.dp.lb
 show _=H.asked.fail
 unfold fP.asked
 simp only [b.fail]
theorem Ie {d:DpS} (lb : -1≤d.left∧d.left≤9223372036854775807) : -1≤d.stop.left∧d.stop.left≤9223372036854775807:=by
 unfold DpS.stop
 simp only
 split <;> omega
theorem gT.DZ {w w1:World} {F:Nat→Prop} {h:Nat} {x:HV} {H:fP} (b:gT w F h x H) (h1:HostIs w1 h x.stop) (hs:w1.heap.size=w.heap.size) (d:Ext (fun i=>i=h) w w1) :
  gT w1 F h x.stop {H with dp:=H.dp.stop} := by
 refine b.row h1 hs d ⟨rfl,rfl,rfl,rfl,rfl,rfl⟩ ⟨rfl,rfl,rfl,rfl,rfl,rfl⟩ ⟨?_,?_,b.fail,b.writes⟩ (Ie b.dp.lb)
 ·unfold HV.stop DpS.stop
  simp only [b.dp.left]
 ·unfold HV.stop DpS.stop
  simp only [b.dp.left,b.dp.dead]
theorem RowsAt.set {w w':World} {F:Nat→Prop} {gs os cap n:Nat} {rows:List (List UInt8)} (h:RowsAt w F (.slice (some ⟨gs,os,none⟩) rows.length cap) rows) (B:n<rows.length) {u:Value} {s:List UInt8} (hu:∀ C fz,w.heap[gs]?=some (.cells C 112 fz)→jn w F u s)
  (he:w'=w.setCell ⟨gs,os+n,none⟩ u):RowsAt w' F (.slice (some ⟨gs,os,none⟩) rows.length cap) (rows.set n s):=by
 obtain ⟨vals,h1,h2,h3,h4⟩:=h
 obtain ⟨C,fz,l⟩:=h2 gs rfl
 have hs:=hu C fz l
 have m:w'.heap[gs]?=some (.cells (C.setIfInBounds (os+n) u) 112 fz):=by rw [he];exact heap_setCell _ _ _ _ l
 have o:∀ k,k≠gs→w'.heap[k]?=w.heap[k]?:=fun k hk=>by rw [he];exact Below.heap_setCell w ⟨gs,os+n,none⟩ u k hk
 have j:∀ (v:Value) (b:List UInt8),jn w F v b→jn w' F v b:=fun v b q=>q.gr fun k Q M hk _=>o k fun e=>by
  rw [e,l] at hk
  cases hk
 have hlen:w'.heap.size=w.heap.size:=by rw [he,size_setCell]
 obtain ⟨hl,r⟩:=h1
 refine ⟨vals.set n u,⟨by rw [bW,hl,bW],?_⟩,fun k hk => ?_,h3,fun i b d => ?_⟩
 ·rcases r with ⟨e,-⟩ | ⟨R,D,cap',e,E,N,hc,hm,G,x⟩
  ·cases e
  ·cases e
   right
   refine ⟨gs,os,cap,by rw [bW],E,by omega,by rw [bW];exact hc,hm,fun i d => ?_,fun i d => ?_⟩
   ·rw [bW] at d
    rw [List.getElem_set]
    split
    ·rename_i e
     subst e
     rw [he]
     exact World.cell?_setCell_same' w _ u (x n (by omega)).1
    ·rename_i O
     rw [he,cH w (a:=⟨gs,os+n,none⟩) (b:=⟨gs,os+i,none⟩) u (by intro e;injection e with I J;omega)]
     exact G i d
   ·obtain ⟨f1,f2⟩:=x i d
    refine ⟨?_,?_⟩
    ·by_cases e:i=n
     ·subst e
      rw [he,World.cell?_setCell_same' w _ u f1]
      rfl
     ·rw [he,cH w (a:=⟨gs,os+n,none⟩) (b:=⟨gs,os+i,none⟩) u (by intro e;injection e with I J;omega)]
      exact f1
    ·rw [he,eN]
     exact f2
 ·cases hk
  exact ⟨_,_,m⟩
 ·by_cases e:i=n
  ·subst e
   rw [dZ B] at d
   cases d
   exact ⟨u,by rw [dZ (by omega)],j _ _ hs⟩
  ·rw [ew (dx e)] at d
   obtain ⟨v,q,y⟩:=h4 i b d
   exact ⟨v,by rw [ew (dx e)];exact q,j _ _ y⟩
theorem jn.C3 {w:World} {F:Nat→Prop} {B n:Nat} {l:List UInt8} (h:w.heap[B]?=some (.cells (u8s l).toArray 5 (0,0))) (hF:F B) (b:l.length=n):jn w F (.slice (some ⟨B,0,none⟩) n n) l:=by
 subst b
 refine ⟨BytesAt.mk' (af _) fun i d=>⟨B,0,rfl,?_⟩,fun k hk => ?_,fun k hk => ?_⟩
 ·have:=ae w B (0+i) _ _ _ h
  rw [this,bG,bQ,Ig l i d]
 ·cases hk
  exact ⟨_,_,h⟩
 ·cases hk
  exact hF
theorem lA {ops:Array Oper} {o:Oper} {a:Act} {K:Act→World→Prop} {Q:Exit→Act→World→Prop} {E:Prop} {w:World} (y:o.guard=none) (s x:Operand) (t e:TypeId) (k b:Nat) (z:Value)
  (B:Tryz.prog.underlying t=some (.slice e)) (j:(Tryz.prog.info? e).map (fun i=>(i.zero,i.size,i.bytes))=some (some z,k,b)) (C:z.cells.size=k) (hk:0<k)
  (G:o.op = .call {callee := .builtin .append,args:=#[s,x],argTypes:=#[t,t]})
  (base:Nat) (v:Value) (n:Nat) (xs:List Value) (I:a.eval s=v) (r:OwnS w base k v n xs) (J:CellsOf w v e) (m:Nat) (news:List Value) (hs:fW w (a.eval x) k m news) (h1:∀ u∈news,u.oneCell'=true)
  (hlen:n+m≤9223372036854775807) (d:(n+m)*b≤140737488355328) (l:base≤w.heap.size)
  (h:∀ v' w',OwnS w' base k v' (n+m) (xs++news)→w.grownBy w' v.ownBlock→CellsOf w' v' e→(∀ b,v'.ownBlock=some b→v.ownBlock=some b∨b=w.heap.size)→
   K (a.put o.dst v') w'):if Region.wanted o (yielded ops a.tmps)=true then Oper.wp Tryz.prog o a w K Q else E:=by
 have hw:Region.wanted o (yielded ops a.tmps)=true:=by simp [Region.wanted,y]
 rw [aD hw]
 obtain ⟨i0,M,D,q,F⟩:=dD j
 exact j9 s x _ _ G base k e i0 z B M D q (by rw [q];exact C) (by omega) v n xs I r J m news (fW.src B hs h1) hlen (by rw [F];exact d) l h
theorem II:(Tryz.prog.info? 157).map (fun i=>(i.zero,i.size,i.bytes))=some (some (.agg #[.int .i64 0,.slice none 0 0]),2,32):=by kernel_rfl
theorem CS {late:List (List UInt8×Nat)} {vals:List Value} (h:vals.length=late.length) (s:List UInt8) (n:Nat) (u:Value):rp (late++[(s,n)]) (vals++[u])=rp late vals++[.int .i64 (n:Int),u]:=by
 unfold rp
 rw [List.zip_append h.symm,eA]
 rfl
theorem GZ (w:World) (n:Int) (u:Value):fW (w.alloc (.cells #[.int .i64 n,u] 157)) (.slice (some ⟨w.heap.size,0,none⟩) 1 1) 2 1 [.int .i64 n,u]:=by
 refine ⟨rfl,_,1,rfl,af _,fun i b=>⟨_,0,rfl,?_⟩⟩
 rw [lY]
 obtain rfl | rfl:i=0∨i=1:=by simp at b;omega
 ·rfl
 ·rfl
theorem qR {w:World} {v:Value} {e T:TypeId} {gs:Nat} {C:Array Value} {fz:Nat×Nat} (h:CellsOf w v e) (d:w.heap[gs]?=some (.cells C T fz)) (i:T≠e):∀ k,v.ownBlock=some k→k≠gs:=fun k hk j=>by
 obtain ⟨m,l,b⟩:=h k hk
 rw [j,d] at b
 cases b
 exact i rfl
theorem gT.DY {w w':World} {F F':Nat→Prop} {h gs os cap n:Nat} {x:HV} {H:fP} {u:Value} {s:List UInt8} (d:gT w F h x H) (m:x.seen = .slice (some ⟨gs,os,none⟩) H.seen.length cap) (E:n<H.seen.length) (hu:jn w F' u s) (hF:∀ k,F k→F' k) (y:∀ k,F' k→k<w.heap.size)
  (he:w'=w.setCell ⟨gs,os+n,none⟩ u):gT w' F' h x {H with seen:=H.seen.set n s}∧w'.heap.size=w.heap.size∧Ext F w w':=by
 have j:=d.seen.mono hF
 rw [m] at j
 have r:=j
 obtain ⟨-,-,h2,h3,-⟩:=r
 obtain ⟨M,J,i⟩:=h2 gs rfl
 have o:=j.set E (fun _ _ _=>hu) he
 have b:∀ k,k≠gs→w'.heap[k]?=w.heap[k]?:=fun k hk=>by rw [he];exact Below.heap_setCell w ⟨gs,os+n,none⟩ u k hk
 have B:w'.heap.size=w.heap.size:=by rw [he,size_setCell]
 have hle:w.heap.size≤w'.heap.size:=by omega
 have hd:=d.dp
 have l:w.heap[h]?=_:=hd.row
 obtain ⟨f1,f2,f3⟩:=d.foot
 have q:∀ (k:Nat) (C:Array Value) (fz:Nat×Nat),w.heap[k]?=some (Obj.cells C 5 fz)→w'.heap[k]?=w.heap[k]?:=fun k C fz hk=>b k fun e=>by
  rw [e,i] at hk
  cases hk
 have D:F gs:=by
  obtain ⟨-,-,-,g3,-⟩:=d.seen
  exact g3 gs (by rw [m];rfl)
 refine ⟨⟨⟨hd.row.gr (b _ fun e => ?_),hd.left,hd.dead,hd.room,hd.tab.gr (b _ (dx (hd.tab.jZ i))),hd.own.frame hle fun k e _=>b k (qR hd.ltyp i (by decide) k e),hd.ltyp.frame fun k e _=>b k (qR hd.ltyp i (by decide) k e),hd.lo,hd.lb⟩,d.fail,d.writes,?_,?_,?_,d.apart,⟨hF _ f1,hF _ f2,fun k e=>hF _ (f3 k e)⟩,fun k hk=>by have:=y k hk;omega⟩,B,?_⟩
 ·rw [e,i] at l
  cases l
 ·refine (d.held.mono hF).tD hle (fun k e _=>b k fun G=>d.apart k e (by rw [m,G];rfl)) fun k C fz hk _=>q k C fz hk
 ·rw [m]
  have e:(H.seen.set n s).length=H.seen.length:=bW
  show RowsAt w' F' _ (H.seen.set n s)
  exact o
 ·refine (d.late.mono hF).gr hle fun k C t fz hk I _ => ?_
  rcases I with rfl | rfl
  ·exact q k C fz hk
  ·exact b k fun e=>by rw [e,i] at hk;cases hk
 ·rw [he]
  exact (Ext.refl _ w).setCell _ _ (.inl D)
theorem gT.DO {w w':World} {F F':Nat→Prop} {h gs os cap n:Nat} {x:HV} {H:fP} {u:Value} {s:List UInt8} (d:gT w F h x H) (m:x.held = .slice (some ⟨gs,os,none⟩) H.held.length cap) (E:n<H.held.length) (hu:jn w F' u s) (hF:∀ k,F k→F' k) (y:∀ k,F' k→k<w.heap.size)
  (he:w'=w.setCell ⟨gs,os+n,none⟩ u):gT w' F' h x {H with held:=H.held.set n s}∧w'.heap.size=w.heap.size∧Ext F w w':=by
 have j:=d.held.mono hF
 rw [m] at j
 have r:=j
 obtain ⟨-,-,h2,h3,-⟩:=r
 obtain ⟨M,J,i⟩:=h2 gs rfl
 have o:=j.set E (fun _ _ _=>hu) he
 have b:∀ k,k≠gs→w'.heap[k]?=w.heap[k]?:=fun k hk=>by rw [he];exact Below.heap_setCell w ⟨gs,os+n,none⟩ u k hk
 have B:w'.heap.size=w.heap.size:=by rw [he,size_setCell]
 have hle:w.heap.size≤w'.heap.size:=by omega
 have hd:=d.dp
 have l:w.heap[h]?=_:=hd.row
 obtain ⟨f1,f2,f3⟩:=d.foot
 have q:∀ (k:Nat) (C:Array Value) (fz:Nat×Nat),w.heap[k]?=some (Obj.cells C 5 fz)→w'.heap[k]?=w.heap[k]?:=fun k C fz hk=>b k fun e=>by
  rw [e,i] at hk
  cases hk
 have D:F gs:=by
  obtain ⟨-,-,-,g3,-⟩:=d.held
  exact g3 gs (by rw [m];rfl)
 refine ⟨⟨⟨hd.row.gr (b _ fun e => ?_),hd.left,hd.dead,hd.room,hd.tab.gr (b _ (dx (hd.tab.jZ i))),hd.own.frame hle fun k e _=>b k (qR hd.ltyp i (by decide) k e),hd.ltyp.frame fun k e _=>b k (qR hd.ltyp i (by decide) k e),hd.lo,hd.lb⟩,d.fail,d.writes,?_,?_,?_,d.apart,⟨hF _ f1,hF _ f2,fun k e=>hF _ (f3 k e)⟩,fun k hk=>by have:=y k hk;omega⟩,B,?_⟩
 ·rw [e,i] at l
  cases l
 ·rw [m]
  have e:(H.held.set n s).length=H.held.length:=bW
  show RowsAt w' F' _ (H.held.set n s)
  exact o
 ·refine (d.seen.mono hF).tD hle (fun k e _=>b k fun G=>d.apart gs (by rw [m];rfl) (by rw [←G];exact e)) fun k C fz hk _=>q k C fz hk
 ·refine (d.late.mono hF).gr hle fun k C t fz hk I _ => ?_
  rcases I with rfl | rfl
  ·exact q k C fz hk
  ·exact b k fun e=>by rw [e,i] at hk;cases hk
 ·rw [he]
  exact (Ext.refl _ w).setCell _ _ (.inl D)
theorem gT.Hr {w j w8:World} {F:Nat→Prop} {h n:Nat} {x:HV} {H:fP} {vals:List Value} {v7 u:Value} {s:List UInt8} (l:gT w F h x H) (o:vals.length=H.late.length) (V:∀ (i:Nat) (b:List UInt8×Nat),H.late[i]?=some b→∃ u,vals[i]?=some u∧jn w F u b.1) (hu:jn w F u s)
  (N:Ext (fun k=>x.late.ownBlock=some k) w j) (Q:OwnS j 0 2 v7 (H.late.length+1) (rp H.late vals++[.int .i64 (n:Int),u])) (q:CellsOf j v7 157) (R:∀ b,v7.ownBlock=some b→x.late.ownBlock=some b∨w.heap.size≤b) (he:w8=j.setCell ⟨h,2,none⟩ v7) :
  gT w8 (fun k=>F k∨(w.heap.size≤k∧k<w8.heap.size)) h {x with late:=v7} {H with late:=H.late++[(s,n)]}∧Ext F w w8:=by
 have hd:=l.dp
 have d:w.heap[h]?=_:=hd.row
 obtain ⟨f1,f2,f3⟩:=l.foot
 obtain ⟨-,-,-,lt,W,-⟩:=l.late
 have X:¬x.late.ownBlock=some h:=lt.ne d (by decide)
 have m:j.heap[h]?=some (.cells x.cells 125):=(N.block h (fO d) X).trans d
 have r:∀ k,k<w.heap.size→k≠h→¬x.late.ownBlock=some k→w8.heap[k]?=w.heap[k]?:=fun k hk h1 h2=>by
  rw [he,Below.heap_setCell j ⟨h,2,none⟩ v7 k h1]
  exact N.block k hk h2
 have y:∀ (k:Nat) (C:Array Value) (t:TypeId) (fz:Nat×Nat),w.heap[k]?=some (Obj.cells C t fz)→t≠125→t≠157→w8.heap[k]?=w.heap[k]?:=fun k C t fz hk h1 h2=>r k (fO hk) (fun e=>by
  rw [e,d] at hk
  cases hk
  exact h1 rfl) fun e=>by
   obtain ⟨C',Y,B⟩:=lt k e
   rw [hk] at B
   cases B
   exact h2 rfl
 have D:w8.heap.size=j.heap.size:=by rw [he,size_setCell]
 have hle:w.heap.size≤w8.heap.size:=by rw [D];exact N.size
 have E:∀ k,F k→F k∨(w.heap.size≤k∧k<w8.heap.size):=fun k hk => .inl hk
 have Z:v7.ownBlock≠some h:=fun e=>by
  obtain ⟨C',Y,B⟩:=q h e
  rw [m] at B
  cases B
 have O:∀ b,v7.ownBlock=some b→w8.heap[b]?=j.heap[b]?:=fun b R=>by
  rw [he]
  exact Below.heap_setCell j ⟨h,2,none⟩ v7 b (fun e=>Z (R.trans (aZ some e)))
 have G:∀ (v:Value) (b:List UInt8),jn w F v b→jn w8 (fun k=>F k∨(w.heap.size≤k∧k<w8.heap.size)) v b:=fun v b S=>(S.gr fun k C fz hk _=>y k C _ fz hk (by decide) (by decide)).mono E
 refine ⟨⟨⟨?_,hd.left,hd.dead,hd.room,hd.tab.gr (r _ hd.tab.lt (fun e=>hd.tab.jZ d e.symm) (lt.qk hd.tab)),hd.own.frame hle fun k e _ => ?_,hd.ltyp.frame fun k e _ => ?_,hd.lo,hd.lb⟩,l.fail,l.writes,?_,?_,⟨vals++[u],by rw [aq,aq,o];rfl,?_,q.frame fun b e _=>O b e,fun k e => ?_,fun i b I => ?_⟩,l.apart,⟨.inl f1,.inl f2,fun k e => .inl (f3 k e)⟩,fun k hk => ?_⟩,?_⟩
 ·rw [he]
  exact heap_setCell _ _ 2 v7 m
 ·obtain ⟨C,fz,J⟩:=hd.ltyp k e
  exact y k C _ fz J (by decide) (by decide)
 ·obtain ⟨C,fz,J⟩:=hd.ltyp k e
  exact y k C _ fz J (by decide) (by decide)
 ·exact (l.held.mono E).gr hle fun k C t fz hk M _=>y k C t fz hk (by rcases M with rfl | rfl <;> decide) (by rcases M with rfl | rfl <;> decide)
 ·exact (l.seen.mono E).gr hle fun k C t fz hk M _=>y k C t fz hk (by rcases M with rfl | rfl <;> decide) (by rcases M with rfl | rfl <;> decide)
 ·rw [CS o,show (H.late++[(s,n)]).length=H.late.length+1 by simp]
  exact Q.frame (by omega) fun b e _=>O b e
 ·rcases R k e with U | U
  ·exact .inl (W k U)
  ·right
   obtain ⟨C,fz,J⟩:=q k e
   exact ⟨U,by rw [D];exact fO J⟩
 ·by_cases aa:i<H.late.length
  ·rw [cG aa] at I
   obtain ⟨v,S,ag⟩:=V i b I
   exact ⟨v,by rw [cG (by omega)];exact S,G _ _ ag⟩
  ·have:i=H.late.length:=by
    have:=(aF.1 I).1
    simp at this
    omega
   subst this
   rw [cE (af _),ef] at I
   cases I
   exact ⟨u,by rw [cE (by omega),o,ef];rfl,G _ _ hu⟩
 ·rcases hk with hk | hk
  ·exact aC (l.lt k hk) hle
  ·exact hk.2
 ·rw [he]
  exact (N.mono fun k e=>W k e).setCell _ _ (.inl f1)
theorem oy (h:Nat) (F:Nat→Prop) (H:fP) (w:World) (m:HostAt w F h H) :
  Calls Tryz.prog 251 #[.agg #[.pointer (some ⟨h,0,none⟩)]] w fun e w'=>e = .returned (.int .i64 (H.seen.length:Nat))∧Below w.heap.size w w':=by
 obtain ⟨x,b⟩:=m
 obtain ⟨g,cap,j,-,-⟩:=b.seen.get
 have d:Below w.heap.size w (w.alloc (.cells #[.pointer (some ⟨h,0,none⟩)] 217)):=(Below.refl _ w).alloc (af _) _
 have i:=b.dp.row.gr (d.block h b.dp.row.lt)
 have q:=b.dp.row.lt
 have l:=fR w (.cells #[.pointer (some ⟨h,0,none⟩)] 217)
 have rc:=ae _ _ 0 _ _ _ l
 unfold HostIs HV.cells at i
 rw [j] at i
 have c1:=ae _ _ 1 _ _ _ i
 have o:=ab d
 clear b j i l d
 go_enter Tryz.func251,Tryz.ntmps251
 go_wp2
 go_ret
 exact ⟨rfl,o.out⟩
def kL (w w':World) (v:Value) (s:Nat):Prop:=∃ b,v = .iface 188 (.pointer (some ⟨b,0,none⟩))∧w.heap.size≤b∧w'.heap[b]?=some (.cells #[.int .i64 ((s:Int)-2)] 191 (0,0))
theorem GA (h:Nat) (F:Nat→Prop) (H:fP) (n:Nat) (w:World) (G:HostAt w F h H) (Q:n<H.seen.length) (_hl:H.seen.length≤1000) (u:H.gW=true) :
  Calls Tryz.prog 250 #[.agg #[.pointer (some ⟨h,0,none⟩)],.int .i64 (n:Nat)] w fun e w'=>∃ v,e = .returned (.tuple #[.slice none 0 0,v])∧kL w w' v (n+2)∧HostAt w' F h H.asked∧Ext F w w':=by
 obtain ⟨x,b⟩:=G
 obtain ⟨g,cap,y,-,-⟩:=b.seen.get
 have d:Below w.heap.size w (w.alloc (.cells #[.pointer (some ⟨h,0,none⟩)] 217)):=(Below.refl _ w).alloc (af _) _
 have i:=b.frame d.size fun k hk=>d.block k (b.lt k hk)
 have j:=i.dp.row
 have N:=b.dp.row.lt
 have B:=fR w (.cells #[.pointer (some ⟨h,0,none⟩)] 217)
 have rc:=ae _ _ 0 _ _ _ B
 have o:x.fail=0:=by rw [b.fail];simpa [fP.gW] using u
 have C:=ab (mo h x _ j (by omega) (by omega))
 unfold HostIs HV.cells at j
 rw [y] at j
 have c1:=ae _ _ 1 _ _ _ j
 have I:=ab d
 have J:=ab i
 have D:=ab o
 have M:Hid (F h):=ab b.foot.1
 have O:¬H.seen.length≤n:=by omega
 clear b i y j B d u o
 go_enter Tryz.func250,Tryz.ntmps250
 go_wp2_with fail
 refine C.out.mono ?_
 rintro e w1 ⟨rfl,q,r,l⟩
 rw [D.out]
 have s:=ab (J.out.asked q r l)
 have E:=ab l
 clear q l
 go_wp2
 go_ret2
 have m:Below w1.heap.size w1 (w1.alloc (.cells #[.int .i64 (n:Int)] 191)):=(Below.refl _ w1).alloc (af _) _
 refine ⟨_,rfl,⟨_,rfl,dK _,?_⟩,⟨_,s.out.frame m.size fun k hk=>m.block k (s.out.lt k hk)⟩,?_⟩
 ·have h1:=fR w1 (.cells #[.int .i64 (n:Int)] 191)
  rw [r,aw] at h1
  rw [h1,show ((n+2:Nat):Int)-2=(n:Int) by omega]
 ·exact ((Ext.fT I.out).trans (E.out.mono fun k e=>by rw [e];exact M.out)).trans (Ext.fT m)
theorem EY (h:Nat) (F:Nat→Prop) (H:fP) (n:Nat) (b:List UInt8) (w:World) (hh:HostAt w F h H) (E:H.seen[n]?=some b) (_hl:H.seen.length≤1000) (bc:b.length≤1000) (X:H.gW=false) (Y : -1≤H.fail∧H.fail≤9223372036854775807) :
  Calls Tryz.prog 250 #[.agg #[.pointer (some ⟨h,0,none⟩)],.int .i64 (n:Nat)] w fun e w'=>∃ v,e = .returned (.tuple #[v,.nilIface])∧BytesAt w' v b∧CellsOf w' v 5∧(∀ k,v.ownBlock=some k→w.heap.size≤k)∧HostAt w' F h H.asked∧Ext F w w':=by
 obtain ⟨x,j⟩:=hh
 obtain ⟨g,cap,Q,R,r⟩:=j.seen.get
 obtain ⟨g0,off,u,rfl,G,S⟩:=r n b E
 have l:Below w.heap.size w (w.alloc (.cells #[.pointer (some ⟨h,0,none⟩)] 217)):=(Below.refl _ w).alloc (af _) _
 have s:=j.frame l.size fun k hk=>l.block k (j.lt k hk)
 have y:=s.dp.row
 have be:=j.dp.row.lt
 have U:=fR w (.cells #[.pointer (some ⟨h,0,none⟩)] 217)
 have rc:=ae _ _ 0 _ _ _ U
 have I:decide (x.fail=0)=false:=by rw [j.fail];exact X
 have Z:=ab (mo h x _ y (by rw [j.fail];omega) (by rw [j.fail];omega))
 unfold HostIs HV.cells at y
 rw [Q] at y
 have c1:=ae _ _ 1 _ _ _ y
 have bi:n<H.seen.length:=(aF.1 E).1
 have bk:¬H.seen.length≤n:=by omega
 have HB:=ab l
 have HX:=ab s
 have aa:=ab I
 have HF:Hid (F h):=ab j.foot.1
 have J:=ab Q
 have HN:=ab E
 have ag:=ab U
 clear j s Q y U l X I Y E r G S R
 go_enter Tryz.func250,Tryz.ntmps250
 go_wp2_with fail
 refine Z.out.mono ?_
 rintro e w1 ⟨rfl,M,ak,m⟩
 rw [aa.out]
 have o:=ab (HX.out.asked M ak m)
 have al:w.heap.size≠h:=by omega
 have V:=m.at al ag.out
 have N:Hid (Ext F w w1):=ab ((Ext.fT HB.out).trans (m.mono fun k e=>by rw [e];exact HF.out))
 have d:=o.out.dp.row
 unfold HostIs HV.cells at d
 simp only at d
 rw [J.out] at d
 have d1:=ae _ _ 1 _ _ _ d
 have rd:=ae _ _ 0 _ _ _ V
 have bl:=fO d
 have bn:=fO V
 obtain ⟨g',cap',O,-,q⟩:=o.out.seen.get
 obtain ⟨am,W,u',e1,av,B⟩:=q n b HN.out
 have e2:(Value.slice (some ⟨g0,off,none⟩) H.seen.length cap) = .slice g' H.asked.seen.length cap':=J.out.symm.trans O
 obtain ⟨rfl,-,rfl⟩:=Value.slice.inj e2
 obtain ⟨rfl,rfl⟩:g0=am∧off=W:=by cases e1;exact ⟨rfl,rfl⟩
 have a0:=ab B.1
 have bo:=fU av
 have a9:=N.out.size
 obtain ⟨a2,k2,rfl,-,-⟩:=B.1.opened
 clear rc c1 M m V d O q e1 e2 B
 go_wp2_with (at_builtin;refine kx rfl _ (.tmp 34) rfl w1.heap.size (.slice none 0 0) 0 [] rfl (OwnS.nil _ _ _) (CellsOf.nil _ _) b (by exact a0.out) (by omega) (af _) ?_;intro v2 w2 i _ C D;obtain ⟨sa,sc,rfl⟩:=i.shape)
 go_ret2
 simp only [aO,bG] at i C
 refine ⟨.slice sa b.length sc,rfl,i.bytes,C,fun k e => ?_,⟨_,o.out.frame D.size fun k hk=>D.block k (o.out.lt k hk)⟩,N.out.trans (Ext.fT D)⟩
 have:=i.gh k e
 omega
end Go.Proofs.YtkkfmkhbdoeglabGreatDoor
namespace Go.Proofs.YtkkfmkhbdoeglabGreatDoor
open Go.RowKit Go.Shelf
theorem Fw (h:Nat) (F:Nat→Prop) (H:fP) (n:Nat) (y:Value) (data:List UInt8) (w:World) (J:HostAt w F h H) (o:BytesAt w y data) (Q:data.length≤64) (V:n<H.seen.length) (_hl:H.seen.length≤1000) (B:H.gW=true) :
  Calls Tryz.prog 252 #[.agg #[.pointer (some ⟨h,0,none⟩)],.int .i64 (n:Nat),y] w fun e w'=>∃ v,e = .returned v∧kL w w' v (n+2)∧HostAt w' F h H.asked∧Ext F w w':=by
 obtain ⟨x,b⟩:=J
 obtain ⟨g,cap,C,-,-⟩:=b.seen.get
 obtain ⟨W,X,rfl,-,-⟩:=o.opened
 have d:Below w.heap.size w (w.alloc (.cells #[.pointer (some ⟨h,0,none⟩)] 217)):=(Below.refl _ w).alloc (af _) _
 have i:=b.frame d.size fun k hk=>d.block k (b.lt k hk)
 have j:=i.dp.row
 have R:=b.dp.row.lt
 have D:=fR w (.cells #[.pointer (some ⟨h,0,none⟩)] 217)
 have rc:=ae _ _ 0 _ _ _ D
 have q:x.fail=0:=by rw [b.fail];simpa [fP.gW] using B
 have E:=ab (mo h x _ j (by omega) (by omega))
 unfold HostIs HV.cells at j
 rw [C] at j
 have c1:=ae _ _ 1 _ _ _ j
 have M:=ab d
 have N:=ab i
 have G:=ab q
 have O:Hid (F h):=ab b.foot.1
 have S:¬H.seen.length≤n:=by omega
 have U:¬(64:Int)<data.length:=by omega
 clear b i C j D d B q o
 go_enter Tryz.func252,Tryz.ntmps252
 go_wp2_with fail
 refine E.out.mono ?_
 rintro e w1 ⟨rfl,r,s,l⟩
 rw [G.out]
 have u:=ab (N.out.asked r s l)
 have I:=ab l
 clear r l
 go_wp2
 go_ret
 have m:Below w1.heap.size w1 (w1.alloc (.cells #[.int .i64 (n:Int)] 191)):=(Below.refl _ w1).alloc (af _) _
 refine ⟨_,rfl,⟨_,rfl,dK _,?_⟩,⟨_,u.out.frame m.size fun k hk=>m.block k (u.out.lt k hk)⟩,?_⟩
 ·have h1:=fR w1 (.cells #[.int .i64 (n:Int)] 191)
  rw [s,aw] at h1
  rw [h1,show ((n+2:Nat):Int)-2=(n:Int) by omega]
 ·exact ((Ext.fT M.out).trans (I.out.mono fun k e=>by rw [e];exact O.out)).trans (Ext.fT m)
theorem Gt (data:List UInt8) (_hl:data.length≤64):splice (madeCells #[Value.int .u8 0] 64).toList 0 (u8s data)=u8s (jG data):=by
 have e:(madeCells #[Value.int .u8 0] 64).toList=List.replicate 64 (Value.int .u8 0):=ez _ _
 rw [e]
 unfold splice jG
 rw [j8,cd,aO,bG,iY,List.drop_replicate]
 unfold u8s
 rw [List.map_replicate]
 rfl
theorem DD (h:Nat) (F:Nat→Prop) (H:fP) (n:Nat) (dv:Value) (data:List UInt8) (w:World) (hh:HostAt w F h H) (ap:BytesAt w dv data) (cB:∀ k,dv.ownBlock=some k→¬F k) (U:data.length≤64) (hn:n<H.seen.length) (_hl:H.seen.length≤1000) (hf:H.gW=false) (c0 : -1≤H.fail∧H.fail≤9223372036854775807) (hw:0≤H.writes∧H.writes≤1000000000000) (e5:H.late.length≤1000000000) :
  Calls Tryz.prog 252 #[.agg #[.pointer (some ⟨h,0,none⟩)],.int .i64 (n:Nat),dv] w fun e w'=>e = .returned .nilIface∧iy w F (fun _=>False) h (H.write n (jG data)).1 w':=by
 obtain ⟨x,r⟩:=hh
 obtain ⟨g,cap,hv,cb,ce⟩:=r.seen.get
 obtain ⟨f4,f5,rfl,-,c3⟩:=ap.opened
 have V:Below w.heap.size w (w.alloc (.cells #[.pointer (some ⟨h,0,none⟩)] 217)):=(Below.refl _ w).alloc (af _) _
 have av:=r.frame V.size fun k hk=>V.block k (r.lt k hk)
 have H0:=av.dp.row
 have e6:=r.dp.row.lt
 have R0:=fR w (.cells #[.pointer (some ⟨h,0,none⟩)] 217)
 have rc:=ae _ _ 0 _ _ _ R0
 have bt:decide (x.fail=0)=false:=by rw [r.fail];exact hf
 have c4:=ab (mo h x _ H0 (by rw [r.fail];omega) (by rw [r.fail];omega))
 unfold HostIs HV.cells at H0
 rw [hv] at H0
 have c1:=ae _ _ 1 _ _ _ H0
 have e7:¬H.seen.length≤n:=by omega
 have c5:¬(64:Int)<data.length:=by omega
 have HB:=ab V
 have HX:=ab av
 have c6:=ab bt
 have c7:=ab hf
 have HF:Hid (F h):=ab r.foot.1
 have a0:=ab hv
 have c8:=ab R0
 have c9:=ab ap
 have e8:∀ w,(Instr.makeSlice 112 (.int .i64 64) (.int .i64 64)).run Tryz.prog w = .ok (.slice (some ⟨w.heap.size,0,none⟩) 64 64) (w.alloc (.cells (madeCells #[.int .u8 0] 64) 5)):=fun w =>
  run_make_row' 112 5 (.int .u8 0) 1 Tryz.underlying112 (by kernel_rfl) rfl .i64 .i64 64 (by omega) (by omega) w
 clear r av hv H0 R0 V hf bt c0 ce cb ap c3
 go_enter Tryz.func252,Tryz.ntmps252
 go_wp2_with fail
 refine c4.out.mono ?_
 rintro e w1 ⟨rfl,bv,a1,W⟩
 rw [c6.out]
 have bw:=ab (HX.out.asked bv a1 W)
 have J:w.heap.size≠h:=by omega
 have bx:=ab (W.at J c8.out)
 have bz:Hid (Ext F w w1):=ab ((Ext.fT HB.out).trans (W.mono fun k e=>by rw [e];exact HF.out))
 clear bv W rc c1
 have a2:w1.heap.size=w.heap.size+1:=by rw [a1];simp
 clear a1
 have co:Hid (BytesAt w1 (.slice f4 data.length f5) data):=ab (fW.frame c9.out fun b e hb=>bz.out.block b hb (cB b e))
 have bD:0<data.length→∃ ad:Addr,f4=some ad∧∀ (j:Nat) (v:Value),(u8s data)[j]?=some v→w1.cell? (ad.add j)=some v:=fun h0=>by
  obtain ⟨a',c',e,-,r⟩:=co.out.opened
  obtain ⟨rfl,-,rfl⟩:=Value.slice.inj e
  obtain ⟨b,off,rfl,-⟩:=r 0 h0
  refine ⟨_,rfl,fun j v hj => ?_⟩
  obtain ⟨bH,e⟩:=aF.1 hj
  rw [iY] at bH
  obtain ⟨b',eS,e',hc⟩:=r j bH
  cases e'
  rw [eZ,hc,←e]
  simp [u8s]
 have bI:=ab bD
 clear bD
 go_wp2_with (with_reducible refine wpList_copy_splice rfl (.tmp 35) (.tmp 36) _ _ rfl 5 Tryz.underlying112 (by kernel_rfl) _ _ _ _ _ _ rfl rfl w1.heap.size 0 (madeCells #[.int .u8 0] 64).toList 5 ?_ (u8s data) ?_ ?_ ?_ ?_ w1.heap.size w1 ?_ (af _) ?_)
 ·exact fR w1 _
 ·rw [iY]
  exact (Nat.min_eq_left U).symm
 ·intro h0
  rw [iY] at h0
  obtain ⟨ad,e,r⟩:=bI.out h0
  refine ⟨by rw [a2],ad,e,fun j v hj => ?_⟩
  have h1:=r j v hj
  exact (aU (w:=w1) (heap_alloc_old w1 _ (fU h1))).trans h1
 ·rw [ez,iY,bF]
  omega
 ·exact oE data
 ·exact (Below.refl _ w1).alloc (af _) _
 intro w2 a3 C
 rw [←a2] at C
 rw [Gt data U] at a3
 have da:=ab C
 have m:Hid (gT w2 F h _ _):=ab (bw.out.frame C.size fun k hk=>C.block k (bw.out.lt k hk))
 have X:=ab ((C.block _ (fO bx.out)).trans bx.out)
 have a4:=U
 clear C U c5 bI
 have rc:=ae _ _ 0 _ _ _ X.out
 have br:=ab m.out.dp.row.lt
 have l:=m.out.dp.row
 have e9:=fO X.out
 unfold HostIs HV.cells at l
 simp only at l
 have f7:=ae _ _ 6 _ _ _ l
 have f6:=aj _ _ 6 _ _ l
 have bL:x.writes=H.writes:=m.out.writes
 rw [bL] at f7
 obtain ⟨vals,bM,a5,bN,dc⟩:=m.out.seen
 have E:=bM
 rw [show HV.seen _ = .slice g H.seen.length cap from a0.out] at E a5 bN
 obtain ⟨dk,E⟩:=E
 rcases E with ⟨e,-⟩ | ⟨gs,os,cap',e,-,fa,dl,dn,ds,bO⟩
 ·have f8:=Value.slice.inj e
  omega
 obtain ⟨rfl,-,rfl⟩:=Value.slice.inj e
 rw [show HV.seen _ = .slice (some ⟨gs,os,none⟩) H.seen.length cap from a0.out] at l
 have s1:=ae _ _ 1 _ _ _ l
 obtain ⟨sn,fb⟩:=bO n (by show n<cap*1;have:H.asked.seen.length=H.seen.length:=rfl;omega)
 obtain ⟨u0,fc⟩:=cC.1 sn
 clear sn
 obtain ⟨Cg,fd,M⟩:=a5 gs rfl
 have fg:gs≠h:=fun e=>by
  rw [e,l] at M
  cases M
 have dT:gs≠w.heap.size:=fun e=>by
  have h1:=X.out
  rw [←e,M] at h1
  cases h1
 have bP:gs≠w.heap.size+1:=fun e=>by
  have h1:=a3.out
  rw [←e,M] at h1
  cases h1
 have d0:=ab bP
 clear bP
 have fi:=br.out
 have a6:=ab (m.out.row (w1:=w2.setCell ⟨h,6,none⟩ (.int .i64 (H.writes+1))) (x' := {x with fail:=if x.fail<0 then x.fail else x.fail-1,writes:=H.writes+1}) (H' := {H.asked with writes:=H.writes+1})
  (heap_setCell _ _ 6 _ m.out.dp.row) (size_setCell _ _ _) ((Ext.refl _ w2).setCell _ _ (.inl rfl)) ⟨rfl,rfl,rfl,rfl,rfl,rfl⟩ ⟨rfl,rfl,rfl,rfl,rfl,rfl⟩ ⟨m.out.dp.left,m.out.dp.dead,m.out.fail,rfl⟩ m.out.dp.lb)
 obtain ⟨O,a7⟩:∃ O:HV,O = {x with fail:=if x.fail<0 then x.fail else x.fail-1,writes:=H.writes+1} := ⟨_,rfl⟩
 rw [←a7] at a6
 have cs:Hid (O.seen = .slice (some ⟨gs,os,none⟩) H.seen.length cap):=ab (by rw [a7];exact a0.out)
 clear a7
 have a9:Hid ((w2.setCell ⟨h,6,none⟩ (.int .i64 (H.writes+1))).heap[w.heap.size+1]?=some (.cells (u8s (jG data)).toArray 5 (0,0))):=ab ((Below.heap_setCell w2 ⟨h,6,none⟩ _ _ (by show w.heap.size+1≠h;omega)).trans a3.out)
 obtain ⟨q,bS,bX⟩:=a6.out.DY (w':=(w2.setCell ⟨h,6,none⟩ (.int .i64 (H.writes+1))).setCell ⟨gs,os+n,none⟩ (.slice (some ⟨w.heap.size+1,0,none⟩) 64 64)) (F':=fun k=>F k∨k=w.heap.size+1) (s:=jG data) (n:=n) cs.out hn
  (jn.C3 a9.out (.inr rfl) (mN a4)) (fun k hk => .inl hk) (fun k hk=>by rcases hk with hk | rfl;exact a6.out.lt k hk;exact fO a9.out) rfl
 have d1:=ab q
 have d2:=ab bX
 have fk:=ab bS
 have d3:=ab (oA h _ _ q.dp.row (by have:=q.dp.lb;have:=q.dp.left;omega) (by have:=q.dp.lb;have:=q.dp.left;omega))
 clear q bX bS
 have fl:=m.out.dp.lb
 clear bM dc dk ds a5 bN dl dn bO M l bL
 go_wp2_with fail
 refine d3.out.mono ?_
 rintro e w5 ⟨rfl,b0,b1,N⟩
 have D:=ab (d1.out.DZ b0 b1 N)
 have ba:Hid (Ext F w w5):=ab (((((bz.out.trans (Ext.fT da.out)).setCell ⟨h,6,none⟩ _ (.inl HF.out))).trans (d2.out)).trans (N.mono fun k e=>by rw [e];exact HF.out))
 have Y:=ab (N.at J (by rw [Below.heap_setCell _ _ _ _ (dx dT),Below.heap_setCell _ _ _ _ J];exact X.out))
 have ct:=ab (N.at (b:=w.heap.size+1) (by show w.heap.size+1≠h;omega) (by rw [Below.heap_setCell _ _ _ _ (dx d0.out)];exact a9.out))
 have bb:Hid (∀ k,(F k∨k=w.heap.size+1)→F k∨w.heap.size≤k):=ab fun k hk=>hk.imp id (by omega)
 have b2:Hid (∀ L:List (List UInt8×Nat),(L=if H.dp.stop.dead then H.late else H.late++[(jG data,n)])→(H.write n (jG data)).1 = {{H.asked with writes:=H.writes+1,seen:=H.seen.set n (jG data)} with dp:=H.dp.stop,late:=L}):=ab (fun L e=>by
  unfold fP.write
  rw [au (by rw [c7.out];decide),e])
 have b3:Hid (O.stop.dead=H.dp.stop.dead):=ab D.out.dp.dead
 clear b0 N b1
 cases hdd:O.stop.dead with
 | true =>
  go_wp2
  go_ret
  refine ⟨rfl,_,⟨O.stop,?_⟩,bb.out,ba.out.mono fun k e => .inl e⟩
  rw [b2.out H.late (by rw [←b3.out,hdd];rfl)]
  exact D.out
 | false =>
  have l:=D.out.dp.row
  unfold HostIs HV.cells at l
  obtain ⟨lv,Z⟩:∃ lv,lv=O.stop.late:=⟨_,rfl⟩
  rw [←Z] at l
  have f3:=ae _ _ 2 _ _ _ l
  have f9:=aj _ _ 2 _ _ l
  have rc:=ae _ _ 0 _ _ _ Y.out
  have fn:=fO l
  have eV:=fO Y.out
  clear l
  go_wp2
  obtain ⟨aa,bc,G,B,Q,be⟩:=D.out.late
  rw [←Z] at G B Q
  have bi:=ab (show w5.heap[h]?=_ from D.out.dp.row)
  have d4:=ab G
  have d5:=ab B
  have ag:=ab Z
  have d6:=ab (B.ne bi.out (by decide))
  have d7:=ab (B.ne Y.out (by decide))
  have d8:=ab be
  have fo:=ab Q
  have d9:=ab bc
  obtain ⟨la,e0,bk⟩:=G.shape
  have fp:=ab bk
  have hlen:H.late.length+1≤1000000001:=by omega
  have b4:=fun o=>ab (Below.drew (Below.al (Below.rf w5) o))
  have ea:=ab (GZ w5 (n:Int) (.slice (some ⟨w.heap.size+1,0,none⟩) 64 64))
  have b5:=fun o=>ab (show _∧_ from ⟨gC o rc,gC o f3⟩)
  clear G B Q be bc bk Z
  rw [bQ] at rc f3
  simp only [bB,aY] at rc f3
  refine iB (n:=14) (S:=(fun w'=>w'.cell? ⟨w.heap.size,0,none⟩=some (.pointer (some ⟨h,0,none⟩))∧w'.cell? ⟨h,2,none⟩=some lv)) (by kernel_rfl) (by kernel_rfl) rfl (by first | exact ⟨rc,f3⟩ | exact (b5 _).out) ?_
  intro e1
  simp only [cI,cc,cy,cJ,bA,cd,bf,bu,bT,aO,aX]
  refine wpAnyH_take (i:=0) (v := ?_) rfl (by kernel_rfl) (by kernel_rfl) (by kernel_rfl) (fun _ _ _ h=>h) (Or.inl ⟨by rfl,?_⟩) (by assumption) ?_
  rotate_left 1
  ·(intro w d;(try dsimp only at d);go_simp;(try with_reducible rfl))
  try simp only [Act.put,ah,ai]
  refine wpAnyH_take (i:=1) (v := ?_) rfl (by kernel_rfl) (by kernel_rfl) (by kernel_rfl) (fun _ _ _ h=>h) (Or.inl ⟨by rfl,?_⟩) (by assumption) ?_
  rotate_left 1
  ·(intro w d;(try dsimp only at d);go_simp;(try with_reducible rfl))
  try simp only [Act.put,ah,ai,ao]
  refine wpAnyH_take (i:=2) (v := ?_) rfl (by kernel_rfl) (by kernel_rfl) (by kernel_rfl) (fun _ _ _ h=>h) (Or.inl ⟨by rfl,?_⟩) (by assumption) ?_
  rotate_left 1
  ·(intro w d;(try dsimp only at d);go_simp;(try with_reducible rfl))
  try simp only [Act.put,ah,ai,ao]
  refine wpAnyH_take (i:=3) (v := ?_) rfl (by kernel_rfl) (by kernel_rfl) (by kernel_rfl) (fun _ _ _ h=>h) (Or.inl ⟨by rfl,?_⟩) (by assumption) ?_
  rotate_left 1
  ·(intro w d;(try dsimp only at d);go_simp;(try with_reducible rfl))
  try simp only [Act.put,ah,ai,ao]
  refine wpAnyH_take (i:=4) (v := ?_) rfl (by kernel_rfl) (by kernel_rfl) (by kernel_rfl) (fun _ _ _ h=>h) (Or.inl ⟨by rfl,?_⟩) (by assumption) ?_
  rotate_left 1
  ·(intro w d;(try dsimp only at d);go_simp;(try with_reducible rfl))
  try simp only [Act.put,ah,ai,ao]
  refine wpAnyH_take (i:=5) (v := ?_) rfl (by kernel_rfl) (by kernel_rfl) (by kernel_rfl) (fun _ _ _ h=>h) (Or.inl ⟨by rfl,?_⟩) (by assumption) ?_
  rotate_left 1
  ·(intro w d;(try dsimp only at d);go_simp;(try with_reducible rfl))
  try simp only [Act.put,ah,ai,ao]
  refine wpAnyH_take (i:=6) (v := ?_) rfl (by kernel_rfl) (by kernel_rfl) (by kernel_rfl) (fun _ _ _ h=>h) (Or.inl ⟨by rfl,?_⟩) (by assumption) ?_
  rotate_left 1
  ·(intro w d;(try dsimp only at d);go_simp;(try with_reducible rfl))
  try simp only [Act.put,ah,ai,ao]
  refine wpAnyH_take (i:=7) (v := ?_) rfl (by kernel_rfl) (by kernel_rfl) (by kernel_rfl) (fun _ _ _ h=>h) (Or.inl ⟨by rfl,?_⟩) (by assumption) ?_
  rotate_left 1
  ·(intro w d;(try dsimp only at d);go_simp;(try with_reducible rfl))
  try simp only [Act.put,ah,ai,ao]
  refine wpAnyH_take (i:=8) (v := ?_) rfl (by kernel_rfl) (by kernel_rfl) (by kernel_rfl) (fun _ _ _ h=>h) (Or.inl ⟨by rfl,?_⟩) (by assumption) ?_
  rotate_left 1
  ·(intro w d;(try dsimp only at d);go_simp;(try with_reducible rfl))
  try simp only [Act.put,ah,ai,ao]
  refine wpAnyH_take (i:=9) (v := ?_) rfl (by kernel_rfl) (by kernel_rfl) (by kernel_rfl) (fun _ _ _ h=>h) (Or.inl ⟨by rfl,?_⟩) (by assumption) ?_
  rotate_left 1
  ·(intro w d;(try dsimp only at d);go_simp;(try with_reducible rfl))
  try simp only [Act.put,ah,ai,ao]
  refine wpAnyH_ready (rs:=[10]) (by kernel_rfl) (by simp) ?_
  refine AllReadyH.cons rfl ?_ AllReadyH.nil
  intro K' hK'
  go_simp
  refine hK'.out _ _ (by first | exact ⟨rc,f3⟩ | exact (b5 _).out) ?_
  clear hK' K'
  intro e2
  try simp only [ah,ai,ao]
  refine wpAnyH_ready (rs:=[11]) (by kernel_rfl) (by simp) ?_
  refine AllReadyH.cons rfl ?_ AllReadyH.nil
  intro K' hK'
  refine lA rfl (.tmp 64) (.tmp 68) 121 157 2 32 (.agg #[.int .i64 0,.slice none 0 0]) Tryz.underlying121 II rfl (by decide) rfl 0 lv H.late.length (rp H.late aa) rfl (by exact d4.out.below (b4 _).out) (by exact d5.out.frame fun b _ hb=>(b4 _).out.block b hb) 1 [.int .i64 (n:Int),.slice (some ⟨w.heap.size+1,0,none⟩) 64 64] (by exact ea.out) (by intro u hu;simp at hu;rcases hu with rfl | rfl <;> rfl) (by omega) (by omega) (aM _) ?_;intro v7 w7 I y bl b6;obtain ⟨bn,R,rfl⟩:=I.shape;have ak:=ab (iN y d6.out (fX _ (.cells #[.int .i64 (n:Int),.slice (some ⟨w.heap.size+1,0,none⟩) 64 64] 157) bi.out));have eb:=ab (iN y d7.out (fX _ (.cells #[.int .i64 (n:Int),.slice (some ⟨w.heap.size+1,0,none⟩) 64 64] 157) Y.out));refine hK'.out _ _ ⟨ae _ _ 0 _ _ _ eb.out,(ae _ _ 2 _ _ _ ak.out).trans (by rw [ag.out];rfl)⟩ ?_
  clear hK' K'
  intro e3
  try simp only [Act.put,ah,ai,ao]
  refine wpAnyH_take (i:=12) (v := ?_) rfl (by kernel_rfl) (by kernel_rfl) (by kernel_rfl) (fun _ _ _ h=>h) (Or.inl ⟨by rfl,?_⟩) (by assumption) ?_
  rotate_left 1
  ·(intro w d;(try dsimp only at d);go_simp;(try with_reducible rfl))
  try simp only [Act.put,ah,ai,ao]
  refine wpAnyH_take (i:=13) (v := ?_) rfl (by kernel_rfl) (by kernel_rfl) (by kernel_rfl) (fun _ _ _ h=>h) (Or.inl ⟨by rfl,?_⟩) (by assumption) ?_
  rotate_left 1
  ·(intro w d;(try dsimp only at d);go_simp;(try with_reducible rfl))
  try simp only [Act.put,ah,ai,ao]
  refine wpAnyH_done (by kernel_rfl) ?_ _
  show Oper.wp _ _ _ _ _ _
  have ga:w7.cell? ⟨h,2,none⟩=some lv:=(ae _ _ 2 _ _ _ ak.out).trans (by rw [ag.out];rfl)
  have g9:=aj _ _ 2 _ _ ak.out
  have fr:=fO ak.out
  have ec:Hid (Ext (fun k=>lv.ownBlock=some k) w5 w7):=ab ⟨y.os,y.tape,y.output,by have:=y.size;simp at this;omega,fun i hi J=>(y.block i (by simp;omega) (fun e=>J e.symm)).trans (heap_alloc_old _ _ hi)⟩
  have ed:=ab I
  have eg:=ab bl
  have ej:=ab b6
  clear I y bl b6 rc f3 f9
  go_wp2
  go_ret
  have cv:=D.out.Hr (w8:=w7.setCell ⟨h,2,none⟩ (.slice bn (H.late.length+1) R)) (v7 := .slice bn (H.late.length+1) R) (vals:=aa) (u := .slice (some ⟨w.heap.size+1,0,none⟩) 64 64) (s:=jG data) (n:=n) d9.out d8.out ?_ ?_ ed.out eg.out ?_ rfl
  ·obtain ⟨h1,h2⟩:=cv
   have el:HostAt (w7.setCell ⟨h,2,none⟩ (.slice bn (H.late.length+1) R)) _ h (H.write n (jG data)).1:=⟨_,by rw [b2.out (H.late++[(jG data,n)]) (by rw [←b3.out,hdd];rfl)];exact h1⟩
   refine ⟨rfl,_,el,fun k hk => ?_,(ba.out.trans' h2 fun k hk=>bb.out k hk).mono fun k e => .inl e⟩
   rcases hk with hk | hk
   ·exact bb.out k hk
   ·exact .inr (by have:=ba.out.size;omega)
  ·exact jn.C3 ct.out (.inr rfl) (mN a4)
  ·rw [←ag.out]
   exact ec.out
  ·rw [←ag.out]
   exact fun b e=>(ej.out b e).imp id (fun e'=>by rw [e'];simp)
end Go.Proofs.YtkkfmkhbdoeglabGreatDoor
