/- A part of what is proved here: lemmas and contracts of single functions. No condition but those that each names. -/
import Derived.Test.YtkkfmkhbdoeglaaGreatDoorG00
import Derived.Deep.DeepCutAuto
import Derived.Deep.RegionWith
import Derived.Test.YtkkfmkhbdoeglaaGreatDoorG04
import Derived.Test.YtkkfmkhbdoeglaaGreatDoorG12
import Derived.Test.YtkkfmkhbdoeglaaGreatDoorG16
import Derived.Test.YtkkfmkhbdoeglaaGreatDoorG18
import Derived.Test.YtkkfmkhbdoeglaaGreatDoorG23
import Derived.Test.YtkkfmkhbdoeglaaGreatDoorG28
import Derived.Test.YtkkfmkhbdoeglaaGreatDoorG34
set_option maxHeartbeats 1000000
set_option maxRecDepth 100000
namespace Go.Proofs.YtkkfmkhbdoeglaaGreatDoor
open Go.RowKit
theorem rF (v:Nat) (Q:Value) (os:List OpB) (w:World) (hs:iy w Q os) (hg:ShapesVar w) (E:ErrVar w) (N:mB os) (f1 f2:Nat) (hw:gE v os=some (f1,f2)) (R:os=[]) :
  Calls Tryz.prog 42 #[.agg #[.int .u64 v,Q]] w fun e w'=>e = .returned (.tuple #[.string ⟨[].toArray⟩,mL f1 f2 0])∧Below w.heap.size w w':=by
 have S:=rW hw
 have F:os.length=0:=by rw [R];rfl
 have h8:os.length≤100:=by omega
 have U:=ab F
 clear F R
 have HS:=ab hs
 obtain ⟨a,cap,rfl,a3,-⟩:=hs.opened
 clear hs
 have HW:=ab hw
 clear hw
 simp only at S
 have G:iy ((w.alloc (.cells #[.int .u64 (v:Int),.slice a os.length cap] 34)).alloc (.cells #[.int .i64 0,.int .i64 0,.int .i64 0] 38)) (.slice a os.length cap) os:=HS.out.below (((Below.refl _ w).alloc (af _) _).alloc (by simp) _)
 have V:=ab G
 clear G
 have B0:Hid (((w.alloc (.cells #[.int .u64 (v:Int),.slice a os.length cap] 34)).alloc (.cells #[.int .i64 0,.int .i64 0,.int .i64 0] 38)).heap[w.heap.size]?=some (.cells #[.int .u64 (v:Int),.slice a os.length cap] 34 (0,0))):=ab (fG _ _ (fA w _))
 have R0:Hid (((w.alloc (.cells #[.int .u64 (v:Int),.slice a os.length cap] 34)).alloc (.cells #[.int .i64 0,.int .i64 0,.int .i64 0] 38)).heap[w.heap.size+1]?=some (.cells #[.int .i64 0,.int .i64 0,.int .i64 0] 38 (0,0))):=ab (by have:=fA (w.alloc (.cells #[.int .u64 (v:Int),.slice a os.length cap] 34)) (.cells #[.int .i64 0,.int .i64 0,.int .i64 0] 38);simpa using this)
 go_enter Tryz.func42,Tryz.ntmps42
 go_wp2_with (at_builtin;refine ji rfl _ (.tmp 10) rfl (w.heap.size+1+1) (.slice none 0 0) [] rfl (OwnS.nil _ _ _) os (by exact V.out) (by simp;omega) (by simp) ?_;intro v2 w2 b W r _;simp only [aO] at b;obtain ⟨sa,O,rfl⟩:=b.shape;have y:=ab (fy r (by omega) B0.out);have X:=ab (fy r (by omega) R0.out);have c0:w2.cell? ⟨w.heap.size,0,none⟩=some (.int .u64 v):=ae _ _ 0 _ _ _ y.out;have bl:=fw y.out)
 have a0:=ab b
 have s:=b.gQ
 have a9:=ab s
 clear s
 have bn:w.heap.size+1+1≤w2.heap.size:=by simpa using W.size
 have Y:Below w.heap.size w w2:=(((Below.refl _ w).alloc (af _) _).alloc (by simp) _).trans (r.mono (by omega))
 refine (tR v (.slice sa os.length O) os _ (by exact b.ops) (hg.new Y) N (f1,f2) HW.out).mono ?_
 rintro e w3 ⟨ev,rfl,⟨gf,rfl,bo,I⟩,m⟩
 have Z:=ab I
 clear I
 have B3:=ab (fy m (fw y.out) y.out)
 have R3:=ab (fy m (fw X.out) X.out)
 have B:=ab (b.below m)
 have b3:=Y.tn m
 clear b
 go_wp2_with fail
 refine (nh gf f1 f2 _ (E.new b3) Z.out (by omega) (by omega)).mono ?_
 rintro e d ⟨rfl,o⟩
 have B4:=ab (fy o (fw B3.out) B3.out)
 have R4:=ab (fy o (fw R3.out) R3.out)
 have br:=ab (B.out.below o)
 have b4:=b3.tn o
 have bs:=o.size
 go_wp2
 generalize u:d.alloc (.cells #[.int .i64 f1,.int .i64 f2,.int .i64 0] 38)=w5
 have t5:Below d.heap.size d w5:=by rw [←u];exact (Below.refl _ d).alloc (af _) _
 have F5:Hid (w5.heap[d.heap.size]?=some (.cells #[.int .i64 f1,.int .i64 f2,.int .i64 0] 38 (0,0))):=ab (by rw [←u];exact fA d _)
 clear u
 have b5:=b4.tn t5
 have B5:=ab (fy t5 (fw B4.out) B4.out)
 have R5:=ab (fy t5 (fw R4.out) R4.out)
 have bt:=t5.size
 have bv:=fw F5.out
 go_loopw [31] (fun i wr=>i = .int .i64 0∧Ext (fun _=>False) w5 wr) (fun _ _=>0)
 case atStart=>exact ⟨rfl,Ext.refl _ _⟩
 case round =>
  obtain ⟨rfl,C⟩:=hrel
  have bw:=C.size
  have aE:Below w.heap.size w wr:=b5.trans (C.below b5.size (fun j hj e=>e))
  have l:=ab (C.at (fun e=>e) R5.out)
  have D:=ab (C.at (fun e=>e) F5.out)
  have E:¬(0:Int)<os.length:=by have:=U.out;omega
  have f0:wr.cell? ⟨d.heap.size,0,none⟩=some (.int .i64 f1):=ae _ _ 0 _ _ _ D.out
  have J:wr.cell? ⟨d.heap.size,1,none⟩=some (.int .i64 f2):=ae _ _ 1 _ _ _ D.out
  have M:wr.cell? ⟨d.heap.size,2,none⟩=some (.int .i64 0):=ae _ _ 2 _ _ _ D.out
  have r0:wr.cell? ⟨w.heap.size+1,0,none⟩=some (.int .i64 0):=ae _ _ 0 _ _ _ l.out
  have r1:wr.cell? ⟨w.heap.size+1,1,none⟩=some (.int .i64 0):=ae _ _ 1 _ _ _ l.out
  have r2:wr.cell? ⟨w.heap.size+1,2,none⟩=some (.int .i64 0):=ae _ _ 2 _ _ _ l.out
  have z0:=aj _ _ 0 _ _ l.out
  have z1:=aj _ _ 1 _ _ l.out
  have z2:=aj _ _ 2 _ _ l.out
  have bx:=fw l.out
  have bc:=fw D.out
  have q:d.heap.size≠w.heap.size+1:=by have:=m.size;omega
  go_wp2
  go_region_held3 (fun w'=>Sem.run Tryz.prog (convert 59 9 (.slice none 0 0)) w' = .ok (.string ⟨[].toArray⟩) w'∧w'.cell? ⟨d.heap.size,0,none⟩=some (.int .i64 f1)∧w'.cell? ⟨d.heap.size,1,none⟩=some (.int .i64 f2)∧w'.cell? ⟨d.heap.size,2,none⟩=some (.int .i64 0))
   (first
    | exact ⟨BytesAt.convert (BytesAt.nil _ _ _),f0,J,M⟩
    | exact ⟨BytesAt.convert (BytesAt.nil _ _ _),iv q f0,iv q J,iv q M⟩)
   (fail)
  go_wp2
  have x0:(((wr.setCell ⟨w.heap.size+1,0,none⟩ (.int .i64 f1)).setCell ⟨w.heap.size+1,1,none⟩ (.int .i64 f2)).setCell ⟨w.heap.size+1,2,none⟩ (.int .i64 0)).cell? ⟨w.heap.size+1,0,none⟩=some (.int .i64 f1):=ae _ _ 0 _ _ _ (heap_setCell _ _ 2 _ (heap_setCell _ _ 1 _ (heap_setCell _ _ 0 _ l.out)))
  have x1:(((wr.setCell ⟨w.heap.size+1,0,none⟩ (.int .i64 f1)).setCell ⟨w.heap.size+1,1,none⟩ (.int .i64 f2)).setCell ⟨w.heap.size+1,2,none⟩ (.int .i64 0)).cell? ⟨w.heap.size+1,1,none⟩=some (.int .i64 f2):=ae _ _ 1 _ _ _ (heap_setCell _ _ 2 _ (heap_setCell _ _ 1 _ (heap_setCell _ _ 0 _ l.out)))
  have x2:(((wr.setCell ⟨w.heap.size+1,0,none⟩ (.int .i64 f1)).setCell ⟨w.heap.size+1,1,none⟩ (.int .i64 f2)).setCell ⟨w.heap.size+1,2,none⟩ (.int .i64 0)).cell? ⟨w.heap.size+1,2,none⟩=some (.int .i64 0):=ae _ _ 2 _ _ _ (heap_setCell _ _ 2 _ (heap_setCell _ _ 1 _ (heap_setCell _ _ 0 _ l.out)))
  refine aI (v := .tuple #[.string ⟨[].toArray⟩,.agg #[.int .i64 f1,.int .i64 f2,.int .i64 0]]) (by simp [results,Tryz.results42,go_sem,x0,x1,x2]) rfl ⟨rfl,?_⟩
  have x:=((aE.setCell (p:=⟨w.heap.size+1,0,none⟩) (by simp) (.int .i64 f1)).setCell (p:=⟨w.heap.size+1,1,none⟩) (by simp) (.int .i64 f2)).setCell (p:=⟨w.heap.size+1,2,none⟩) (by simp) (.int .i64 0)
  exact ⟨x.os,x.tape,x.output,x.size,x.block⟩
theorem sL (v:Nat) (d:Value) (os:List OpB) (w:World) (hs:iy w d os) (j:ShapesVar w) (i:ErrVar w) (b:mB os) (h8:os.length≤2932031007402) :
  Calls Tryz.prog 42 #[.agg #[.int .u64 v,d]] w fun e w'=>e = .returned (match gE v os with | none => .tuple #[.string ⟨(iG v os).toArray⟩,mL 0 0 0] | some f => .tuple #[.string ⟨[].toArray⟩,mL f.1 f.2 0])∧Below w.heap.size w w':=by
 cases hw:gE v os with
 | none=>exact rN v d os w hs j b hw
 | some f =>
  by_cases l:os=[]
  ·exact rF v d os w hs j i b f.1 f.2 hw l
  ·exact sR v d os w hs j i b f.1 f.2 hw (by have:=List.length_pos_iff.2 l;omega) h8
end Go.Proofs.YtkkfmkhbdoeglaaGreatDoor
namespace Go.Proofs.YtkkfmkhbdoeglaaGreatDoor
open Go.RowKit
theorem iy.take {w:World} {a:Option Addr} {n cap:Nat} {os:List OpB} (h:iy w (.slice a n cap) os) (k:Nat) (hk:k≤os.length):iy w (.slice a k cap) (os.take k):=by
 obtain ⟨hl,r,cap',he,hc,q⟩:=h
 cases he
 have m:(os.take k).length=k:=by rw [aD];omega
 have j:fM os=fM (os.take k)++fM (os.drop k):=by rw [←mF,cU]
 refine ⟨iX _,a,cap,by rw [m],by omega,fun i o => ?_⟩
 have l:i<(fM os).length:=by rw [j,aq];omega
 obtain ⟨b,off,rfl,d⟩:=q i l
 refine ⟨b,off,rfl,?_⟩
 rw [d]
 congr 1
 have:(fM os)[i]?=(fM (os.take k))[i]?:=by rw [j,cE o]
 rw [aw l,aw o] at this
 exact Option.some.inj this
end Go.Proofs.YtkkfmkhbdoeglaaGreatDoor
namespace Go.Proofs.YtkkfmkhbdoeglaaGreatDoor
open Go.RowKit
theorem jR {v:Nat} {os:List OpB} (h:gE v os=none):9≤(iG v os).length∧(iG v os).length≤200:=by
 have i:os.length≤8∧fJ 0 [] os=none:=by
  unfold gE at h
  split at h
  ·cases h
  ·split at h
   ·cases h
   ·rename_i h1 h2;exact ⟨by omega,h⟩
 have b:∀ o∈os,(gA o).length≤12:=by
  intro o j
  obtain ⟨k,hk,rfl⟩:=cD j
  obtain ⟨l,d⟩:=iK os 0 [] i.2 k hk
  exact (oG d).1
 have:=yf v os os.length b
 rw [vL] at this
 refine ⟨by simp [iG,j4];omega,by omega⟩
end Go.Proofs.YtkkfmkhbdoeglaaGreatDoor
namespace Go.Proofs.YtkkfmkhbdoeglaaGreatDoor
def DpS.Same (d d':DpS):Prop:=d'.S=d.S∧d'.log=d.log∧d'.room=d.room
theorem DpS.Same.refl (d:DpS):d.Same d:=⟨rfl,rfl,rfl⟩
theorem DpS.Same.trans {a b c:DpS} (h:a.Same b) (k:b.Same c):a.Same c:=⟨k.1.trans h.1,k.2.1.trans h.2.1,k.2.2.trans h.2.2⟩
theorem lD (d:DpS):d.Same d.stop:=⟨rfl,rfl,rfl⟩
theorem mo {d:DpS} (h:d.dead=true):d.stop.dead=true:=by
 unfold DpS.stop
 simp [h]
structure GY (ps:List (List UInt8)) (at':Nat) (H H1:fx) (r:Option Nat):Prop where
 held:H1.held=H.held
 dp:H.dp.Same H1.dp
 late:∃ m,m≤ps.length∧H1.late=H.late++(ps.take m).zipIdx at'∧(r=none→H1.dp.dead=false→m=ps.length∧H1.seen=applySel (fun _=>true) 0 (ps.zipIdx at') H.seen)
 gone:H.dp.dead=true→H1.dp.dead=true∧H1.late=H.late
 err:∀ f,r=some f→1≤f∧0≤H.fail
 fail:0≤H1.fail→0≤H.fail
 len:H1.seen.length=H.seen.length
theorem jG {H:fx} (h:0≤H.asked.fail):0≤H.fail:=by
 unfold fx.asked at h
 simp only at h
 split at h <;> omega
theorem ru {H:fx} (h:H.gy=true):0≤H.fail:=by
 unfold fx.gy at h
 have:=dM h
 omega
theorem CV {α:Type} (l:List (α×Nat)) (d:List α) (k j:Nat):applySel (fun _=>true) k l d=applySel (fun _=>true) j l d:=by
 induction l generalizing d k j with
 | nil=>rfl
 | cons x l ih =>
  obtain ⟨p,n⟩:=x
  unfold applySel
  exact ih _ _ _
theorem pz:∀ (ps:List (List UInt8)) (H:fx) (at':Nat),GY ps at' H (fZ ps H at').1 (fZ ps H at').2
 | [],H,at'=>⟨rfl,.refl _,⟨0,af _,by simp [fZ],fun _ _=>⟨rfl,rfl⟩⟩,fun h=>⟨h,rfl⟩,fun f h=>(by cases h),id,rfl⟩
 | s::ps,H,at'=>by
  unfold fZ
  rcases cz H.gy with j | j
  ·have e:H.write at' s=(H.asked,some (at'+2)):=by unfold fx.write;rw [aB j]
   rw [e]
   exact ⟨rfl,.refl _,⟨0,aK _,by simp [fx.asked],fun h=>by cases h⟩,fun h=>⟨h,rfl⟩,fun f h=>(by cases h;exact ⟨by omega,ru j⟩),jG,rfl⟩
  ·obtain ⟨d,b⟩:∃ d:fx,d = {H.asked with writes:=H.writes+1,seen:=H.seen.set at' s,dp:=H.dp.stop,late:=if H.dp.stop.dead then H.late else H.late++[(s,at')]} := ⟨_,rfl⟩
   have e:H.write at' s=(d,none):=by unfold fx.write;rw [au (by rw [j];decide),b]
   rw [e]
   simp only
   obtain ⟨h1,h2,⟨m,hm,hl,hd⟩,h4,h5,h6,h7⟩:=pz ps d (at'+1)
   have a1:d.held=H.held:=by rw [b];rfl
   have a2:d.dp=H.dp.stop:=by rw [b]
   have a3:d.seen=H.seen.set at' s:=by rw [b]
   have a4:d.fail=H.asked.fail:=by rw [b]
   have a5:d.late=if H.dp.stop.dead then H.late else H.late++[(s,at')]:=by rw [b]
   rcases cz H.dp.stop.dead with hs | hs
   ·obtain ⟨g1,g2⟩:=h4 (by rw [a2];exact hs)
    rw [hs,aB rfl] at a5
    refine ⟨h1.trans a1,(lD _).trans (a2▸h2),⟨0,aK _,by rw [g2,a5];simp,fun i hdd => ?_⟩,fun _=>⟨g1,g2.trans a5⟩,fun f i=>⟨(h5 f i).1,jG (a4▸(h5 f i).2)⟩,fun h=>jG (a4▸h6 h),by rw [h7,a3,bU]⟩
    rw [hdd] at g1
    cases g1
   ·rw [hs,au (by decide)] at a5
    refine ⟨h1.trans a1,(lD _).trans (a2▸h2),⟨m+1,by rw [ar];omega,by rw [hl,a5,bj,List.zipIdx_cons,bq];rfl,fun i hdd => ?_⟩,fun h => ?_,fun f i=>⟨(h5 f i).1,jG (a4▸(h5 f i).2)⟩,fun h=>jG (a4▸h6 h),by rw [h7,a3,bU]⟩
    ·obtain ⟨l,o⟩:=hd i hdd
     refine ⟨by rw [l];rfl,?_⟩
     rw [o,a3,List.zipIdx_cons]
     exact CV _ _ 0 1
    ·rw [mo h] at hs
     cases hs
structure DiskUp (n:Nat) (H:fx) (g:LogS) (v:Nat) (T:List E):Prop where
 seen:H.seen=H.held
 late:H.late=[]
 len:H.held.length=n
 stamps:stampsLe H.held g.stamp
 inv:DiskInv decSB decDB foldS [] (H.held.map parseSec) (placeOf n) g.slot v T g.next
 next:g.next≤n
 dead:H.dp.dead=false
structure kL (n:Nat) (d:List (List UInt8)) (s v:Nat) (T:List E):Prop where
 len:d.length=n
 stamps:stampsLe d s
 inv:∃ slot next,next≤n∧DiskInv decSB decDB foldS [] (d.map parseSec) (placeOf n) slot v T next
def May (n:Nat) (H:fx) (s:Nat) (C:Nat→List E→Prop):Prop:=∀ b,∃ v T,C v T∧kL n (applySel b 0 H.late H.held) s v T
theorem stampsLe.mono {d:List (List UInt8)} {s t:Nat} (h:stampsLe d s) (hs:s≤t):stampsLe d t:=fun b i=>aH (h b i) hs
theorem kL.mono {n:Nat} {d:List (List UInt8)} {s t v:Nat} {T:List E} (h:kL n d s v T) (hs:s≤t):kL n d t v T:=⟨h.len,h.stamps.mono hs,h.inv⟩
theorem May.mono {n:Nat} {H:fx} {s t:Nat} {C D:Nat→List E→Prop} (h:May n H s C) (hs:s≤t) (d:∀ v T,C v T→D v T):May n H t D:=fun b=>by
 obtain ⟨v,T,h1,h2⟩:=h b
 exact ⟨v,T,d v T h1,h2.mono hs⟩
theorem DiskUp.image {n:Nat} {H:fx} {g:LogS} {v:Nat} {T:List E} (h:DiskUp n H g v T):kL n H.held g.stamp v T:=⟨h.len,h.stamps,_,_,h.next,h.inv⟩
theorem DiskUp.may {n:Nat} {H:fx} {g:LogS} {v:Nat} {T:List E} (h:DiskUp n H g v T):May n H g.stamp (fun w U=>w=v∧U=T):=fun b=>⟨v,T,⟨rfl,rfl⟩,by rw [h.late];exact h.image⟩
structure DL (ps:List (List UInt8)) (at':Nat) (H H1:fx) (r:Option Nat):Prop where
 dp:H.dp.Same H1.dp
 good:r=none→H1.dp.dead=false→H1.held=applySel (fun _=>true) 0 (ps.zipIdx at') H.held∧H1.seen=H1.held∧H1.late=[]
 bad:(∃ f,r=some f)∨H1.dp.dead=true→H1.held=H.held∧∃ m,H1.late=(ps.take m).zipIdx at'
 err:∀ f,r=some f→1≤f∧0≤H.fail
 fail:0≤H1.fail→0≤H.fail
 len:H1.seen.length=H.seen.length
theorem vt {H:fx} (g:LogS) (at':Nat) (data:List UInt8) (h1:H.seen=H.held) (h2:H.late=[]):DL (fR (g.stamp+1) data) at' H (fC H g at' data).1 (fC H g at' data).2:=by
 unfold fC
 obtain ⟨w1,w2,⟨m,hm,hl,hd⟩,o,w5,b,d⟩:=pz (fR (g.stamp+1) data) H at'
 generalize fZ (fR (g.stamp+1) data) H at'=q at *
 obtain ⟨H1,r⟩:=q
 rw [h2,aO] at hl
 cases r with
 | some f=>exact ⟨w2,fun h=>(by cases h),fun _=>⟨w1,m,hl⟩,w5,b,d⟩
 | none =>
  show DL _ _ _ H1.flush.1 H1.flush.2
  unfold fx.flush
  rcases cz H1.gy with i | i
  ·rw [aB i]
   exact ⟨w2,fun h=>(by cases h),fun _=>⟨w1,m,hl⟩,fun f h=>(by cases h;exact ⟨af _,b (ru i)⟩),fun h=>b (jG h),d⟩
  ·rw [au (by rw [i];decide)]
   rcases cz H1.dp.stop.dead with hs | hs
   ·rw [aB hs]
    refine ⟨w2.trans (lD _),fun _ h => ?_,fun _=>⟨w1,m,hl⟩,fun f h=>(by cases h),fun h=>b (jG h),d⟩
    rw [show ({H1.asked with dp:=H1.dp.stop} : fx).dp.dead=H1.dp.stop.dead from rfl,hs] at h
    cases h
   ·rw [au (by rw [hs];decide)]
    have hdd:H1.dp.dead=false:=by
     rcases cz H1.dp.dead with h | h
     ·rw [mo h] at hs;cases hs
     ·exact h
    obtain ⟨j,l⟩:=hd rfl hdd
    rw [j,bp] at hl
    refine ⟨w2.trans (lD _),fun _ _=>⟨?_,?_,rfl⟩,fun h => ?_,fun f h=>(by cases h),fun h=>b (jG h),d⟩
    ·show applySel (fun _=>true) 0 H1.late H1.held=_
     rw [hl,w1]
    ·show H1.seen=applySel (fun _=>true) 0 H1.late H1.held
     rw [hl,w1,l,h1]
    ·rcases h with ⟨f,h⟩ | h
     ·cases h
     ·rw [show ({H1.asked with dp:=H1.dp.stop,held:=applySel (fun _=>true) 0 H1.late H1.held,late:=[]} : fx).dp.dead=H1.dp.stop.dead from rfl,hs] at h
      cases h
theorem tZ {l:List UInt8} {v:Nat} {os:List OpB} (h:oU l = .inl (v,os)):decDB l=some (v,os):=by unfold decDB;rw [h]
theorem zZ {l:List UInt8} {v:Nat} {S:List E} (h:im l = .inl (v,S)):decSB l=some (v,S):=by unfold decSB;rw [h]
structure Step (j n:Nat) (H:fx) (g:LogS) (v:Nat) (T:List E) (v':Nat) (T':List E) (H1:fx) (g1:LogS) (r:Option Nat):Prop where
 dp:H.dp.Same H1.dp
 good:r=none→H1.dp.dead=false→DiskUp n H1 g1 v' T'
 may:May n H1 (g.stamp+j) (fun w U=>(w=v∧U=T)∨(w=v'∧U=T'))
 stamp:g1.stamp≤g.stamp+j
 err:∀ f,r=some f→1≤f∧0≤H.fail
 fail:0≤H1.fail→0≤H.fail
theorem mapped {d:List (List UInt8)} {ps:List (List UInt8)} {at' m:Nat} (b:Nat→Bool):(applySel b 0 ((ps.take m).zipIdx at') d).map parseSec=applySel b 0 (((ps.map parseSec).take m).zipIdx at') (d.map parseSec):=by
 rw [qX]
 congr 1
 rw [←List.map_take,List.zipIdx_map]
 rfl
theorem uv {s:Nat} {data:List UInt8} (hs:s<18446744073709551616) (b:0<data.length) (d:partsOf data.length<256):nM s ((fR s data).map parseSec) data∧((fR s data).map parseSec).length=partsOf data.length :=
 ⟨zQ hs b d,by rw [aG,iC]⟩
theorem sd {n:Nat} {H:fx} {g:LogS} {v:Nat} {T:List E} {data:List UInt8} {os:List OpB} (h:DiskUp n H g v T) (hs:g.stamp+1<18446744073709551616) (j:0<data.length) (l:partsOf data.length<256) (m:g.next+partsOf data.length≤n) (hd:oU data = .inl (v+1,os))
  {d':List (List UInt8)} (b:stampsLe d' (g.stamp+1)) (hlen:d'.length=n) (hm:lX (H.held.map parseSec) (d'.map parseSec) g.next ((fR (g.stamp+1) data).map parseSec)) :
  (kJ (d'.map parseSec) g.next ((fR (g.stamp+1) data).map parseSec)→DiskInv decSB decDB foldS [] (d'.map parseSec) (placeOf n) g.slot (v+1) (foldS T os) (g.next+partsOf data.length))∧(kL n d' (g.stamp+1) v T∨kL n d' (g.stamp+1) (v+1) (foldS T os)):=by
 obtain ⟨o,q⟩:=uv hs j l
 obtain ⟨d,r⟩:=h.inv.delta hm o h.stamps.fresh (by omega) (tZ hd)
 rw [q] at d
 refine ⟨d,?_⟩
 by_cases i:kJ (d'.map parseSec) g.next ((fR (g.stamp+1) data).map parseSec)
 ·exact .inr ⟨hlen,b,_,_,m,d i⟩
 ·exact .inl ⟨hlen,b,_,_,h.next,r i⟩
theorem rV {n:Nat} {H:fx} {g:LogS} {v v':Nat} {T T':List E} {data:List UInt8} (h:DiskUp n H g v T) (hs:g.stamp+1<18446744073709551616) (m:0<data.length) (o:partsOf data.length<256) (d:partsOf data.length≤placeOf n) (i:2*placeOf n≤n) (hd:im data = .inl (v',T'))
  {d':List (List UInt8)} (b:stampsLe d' (g.stamp+1)) (hlen:d'.length=n) (hm:lX (H.held.map parseSec) (d'.map parseSec) ((1-g.slot)*placeOf n) ((fR (g.stamp+1) data).map parseSec)) :
  (kJ (d'.map parseSec) ((1-g.slot)*placeOf n) ((fR (g.stamp+1) data).map parseSec)→DiskInv decSB decDB foldS [] (d'.map parseSec) (placeOf n) (1-g.slot) v' T' (2*placeOf n))∧(kL n d' (g.stamp+1) v T∨kL n d' (g.stamp+1) v' T'):=by
 obtain ⟨q,r⟩:=uv hs m o
 obtain ⟨j,s⟩:=h.inv.state hm q (by rw [r];exact d) (by rw [aG,h.len];exact i) h.stamps.fresh (by omega) (zZ hd)
 refine ⟨j,?_⟩
 by_cases l:kJ (d'.map parseSec) ((1-g.slot)*placeOf n) ((fR (g.stamp+1) data).map parseSec)
 ·exact .inr ⟨hlen,b,_,_,i,j l⟩
 ·exact .inl ⟨hlen,b,_,_,h.next,s l⟩
theorem tS {n:Nat} {H:fx} {g:LogS} {v v':Nat} {T T':List E} {data:List UInt8} {at':Nat} (h:DiskUp n H g v T) (hs:g.stamp+1<18446744073709551616) (x:partsOf data.length<256) (j:at'+partsOf data.length≤n)
  (l:∀ d':List (List UInt8),stampsLe d' (g.stamp+1)→d'.length=n→lX (H.held.map parseSec) (d'.map parseSec) at' ((fR (g.stamp+1) data).map parseSec)→(kL n d' (g.stamp+1) v T∨kL n d' (g.stamp+1) v' T')) :
  H.dp.Same (fC H g at' data).1.dp∧((fC H g at' data).2=none→(fC H g at' data).1.dp.dead=false→(fC H g at' data).1.held=applySel (fun _=>true) 0 ((fR (g.stamp+1) data).zipIdx at') H.held∧(fC H g at' data).1.seen=(fC H g at' data).1.held∧(fC H g at' data).1.late=[]∧(fC H g at' data).1.held.length=n∧stampsLe (fC H g at' data).1.held (g.stamp+1)∧
    lX (H.held.map parseSec) ((fC H g at' data).1.held.map parseSec) at' ((fR (g.stamp+1) data).map parseSec)∧kJ ((fC H g at' data).1.held.map parseSec) at' ((fR (g.stamp+1) data).map parseSec))∧
   (∀ b,kL n (applySel b 0 (fC H g at' data).1.late (fC H g at' data).1.held) (g.stamp+1) v T∨kL n (applySel b 0 (fC H g at' data).1.late (fC H g at' data).1.held) (g.stamp+1) v' T')∧
   (∀ f,(fC H g at' data).2=some f→1≤f∧0≤H.fail)∧(0≤(fC H g at' data).1.fail→0≤H.fail)∧(fC H g at' data).1.seen.length=n:=by
 obtain ⟨s1,s2,y,B,C,D⟩:=vt g at' data h.seen h.late
 generalize fC H g at' data=q at *
 obtain ⟨H1,r⟩:=q
 simp only at *
 have o:(fR (g.stamp+1) data).length=partsOf data.length:=iC _ _
 have i:∀ b m,stampsLe (applySel b 0 (((fR (g.stamp+1) data).take m).zipIdx at') H.held) (g.stamp+1)∧(applySel b 0 (((fR (g.stamp+1) data).take m).zipIdx at') H.held).length=n∧lX (H.held.map parseSec) ((applySel b 0 (((fR (g.stamp+1) data).take m).zipIdx at') H.held).map parseSec) at' ((fR (g.stamp+1) data).map parseSec):=fun b m=>by
  refine ⟨h.stamps.apply hs x b m at' (by rw [h.len];exact j),by rw [jF,h.len],?_⟩
  rw [mapped]
  exact yj b (by rw [aG,aG,o,h.len];exact j)
 refine ⟨s1,fun s hdd => ?_,fun b => ?_,B,C,?_⟩
 ·obtain ⟨g1,g2,g3⟩:=s2 s hdd
  have:=i (fun _=>true) (fR (g.stamp+1) data).length
  rw [bp,←g1] at this
  refine ⟨g1,g2,g3,this.2.1,this.1,this.2.2,?_⟩
  have e:=mapped (d:=H.held) (ps:=fR (g.stamp+1) data) (at':=at') (m:=(fR (g.stamp+1) data).length) (fun _=>true)
  rw [bp,←g1] at e
  rw [e,show (fR (g.stamp+1) data).length=((fR (g.stamp+1) data).map parseSec).length by rw [aG],bp]
  exact AA (by rw [aG,aG,o,h.len];exact j)
 ·by_cases u:(∃ f,r=some f)∨H1.dp.dead=true
  ·obtain ⟨g1,m,g2⟩:=y u
   rw [g1,g2]
   obtain ⟨m1,m2,m3⟩:=i b m
   exact l _ m1 m2 m3
  ·have s:r=none:=by
    cases r with
    | none=>rfl
    | some f=>exact absurd (.inl ⟨f,rfl⟩) u
   have hdd:H1.dp.dead=false:=by
    rcases cz H1.dp.dead with e | e
    ·exact absurd (.inr e) u
    ·exact e
   obtain ⟨g1,g2,g3⟩:=s2 s hdd
   rw [g3]
   have:=i (fun _=>true) (fR (g.stamp+1) data).length
   rw [bp,←g1] at this
   exact l _ this.1 this.2.1 this.2.2
 ·rw [D,h.seen,h.len]
theorem vT {n:Nat} {H:fx} {g:LogS} {v:Nat} {T:List E} {data:List UInt8} {os:List OpB} (h:DiskUp n H g v T) (hs:g.stamp+1<18446744073709551616) (l:0<data.length) (j:partsOf data.length<256) (i:g.next+partsOf data.length≤n) (hd:oU data = .inl (v+1,os)) :
  Step 1 n H g v T (v+1) (foldS T os) (gj H g data).1 (gj H g data).2.1 (gj H g data).2.2:=by
 obtain ⟨w1,w2,w3,m,w5,s⟩:=tS (at':=g.next) (data:=data) (v':=v+1) (T':=foldS T os) h hs j i (fun d' a b c=>(sd h hs l j i hd a b c).2)
 unfold gj
 generalize fC H g g.next data=q at *
 obtain ⟨H1,r⟩:=q
 have d:May n H1 (g.stamp+1) (fun w U=>(w=v∧U=T)∨(w=v+1∧U=foldS T os)):=fun o=>by
  rcases w3 o with k | k
  ·exact ⟨v,T,.inl ⟨rfl,rfl⟩,k⟩
  ·exact ⟨v+1,_,.inr ⟨rfl,rfl⟩,k⟩
 cases r with
 | some f=>exact ⟨w1,fun e=>(by cases e),d,by show g.stamp+1≤_;omega,m,w5⟩
 | none =>
  refine ⟨w1,fun _ hdd => ?_,d,by show g.stamp+1≤_;omega,m,w5⟩
  obtain ⟨g1,g2,g3,g4,g5,g6,g7⟩:=w2 rfl hdd
  exact ⟨g2,g3,g4,g5,(sd h hs l j i hd g5 g4 g6).1 g7,i,hdd⟩
theorem wm {n:Nat} {H:fx} {g:LogS} {v v':Nat} {T T':List E} (h:DiskUp n H g v T) (j:32≤n∧n≤128) (hs:g.stamp+1<18446744073709551616) (l:0<(ic v' T').length) (m:(ic v' T').length≤10+16*(n-8)) (hd:im (ic v' T') = .inl (v',T')) :
  Step 1 n H g v T v' T' (fI H g v' T').1 (fI H g v' T').2.1 (fI H g v' T').2.2∧((fI H g v' T').2.2=none→(fI H g v' T').1.dp.dead=false→(fI H g v' T').2.1.next=2*placeOf n∧(fI H g v' T').2.1.stamp=g.stamp+1)∧(fI H g v' T').2.1.stamp=g.stamp+1:=by
 have x:=iT j.1 j.2
 have i:=lN m
 have y:=h.inv.xp.2
 have o:(1-g.slot)*placeOf n+partsOf (ic v' T').length≤n:=by
  obtain e | e:g.slot=0∨g.slot=1:=by omega
  ·rw [e];omega
  ·rw [e];omega
 obtain ⟨w1,w2,w3,s,w5,B⟩:=tS (at':=(1-g.slot)*placeOf n) (data:=ic v' T') (v':=v') (T':=T') h hs (by omega) o (fun d' a b c=>(rV h hs l (by omega) i (by omega) hd a b c).2)
 have hlen:H.seen.length=n:=by rw [h.seen,h.len]
 unfold fI
 rw [hlen]
 generalize fC H g ((1-g.slot)*placeOf n) (ic v' T')=q at *
 obtain ⟨H1,r⟩:=q
 have d:May n H1 (g.stamp+1) (fun w U=>(w=v∧U=T)∨(w=v'∧U=T')):=fun u=>by
  rcases w3 u with k | k
  ·exact ⟨v,T,.inl ⟨rfl,rfl⟩,k⟩
  ·exact ⟨v',_,.inr ⟨rfl,rfl⟩,k⟩
 cases r with
 | some f=>exact ⟨⟨w1,fun e=>(by cases e),d,by show g.stamp+1≤_;omega,s,w5⟩,fun e=>(by cases e),rfl⟩
 | none =>
  refine ⟨⟨w1,fun _ hdd => ?_,d,by show g.stamp+1≤_;omega,s,w5⟩,fun _ _=>⟨rfl,rfl⟩,rfl⟩
  obtain ⟨g1,g2,g3,g4,g5,g6,g7⟩:=w2 rfl hdd
  exact ⟨g2,g3,g4,g5,(rV h hs l (by omega) i (by omega) hd g5 g4 g6).1 g7,by show 2*placeOf n≤n;omega,hdd⟩
theorem DiskInv.zero {d:List Part} {p slot:Nat} {T:List E} {next:Nat} (h:DiskInv decSB decDB foldS [] d p slot 0 T next):next=2*p:=by
 obtain ⟨b,v0,i,l,j,m,hc,-⟩:=h
 have h1:=hc.pos.2.2.1
 have h2:l=[]:=bT (by omega)
 subst h2
 cases hc
 rfl
theorem Ej {n:Nat} {H:fx} {g:LogS} {v:Nat} {T:List E} {data:List UInt8} {os:List OpB} (h:DiskUp n H g v T) (s:32≤n∧n≤128) (hs:g.stamp+2<18446744073709551616) (y:0<data.length) (R:data.length≤700) (hd:oU data = .inl (v+1,os))
  (ha:v≠0→0<(ic v T).length∧(ic v T).length≤10+16*(n-8)∧im (ic v T) = .inl (v,T)) :
  Step 2 n H g v T (v+1) (foldS T os) (gF H g data v T).1 (gF H g data v T).2.1 (gF H g data v T).2.2:=by
 have M:=iT s.1 s.2
 have N:partsOf data.length≤14:=by unfold partsOf;omega
 have hlen:H.seen.length=n:=by rw [h.seen,h.len]
 unfold gF
 rw [hlen]
 by_cases l:n<g.next+partsOf data.length
 ·rw [aB l]
  have G:v≠0:=fun e=>by
   subst e
   have:=h.inv.zero
   omega
  obtain ⟨a1,a2,a3⟩:=ha G
  obtain ⟨k,B,I⟩:=wm h s (by omega) a1 a2 a3
  generalize fI H g v T=q at *
  obtain ⟨H1,g1,r⟩:=q
  simp only at k B I
  cases r with
  | some f =>
   exact ⟨k.dp,fun e=>(by cases e),k.may.mono (dL _) fun w U h => .inl (h.elim id id),by show g1.stamp≤_;omega,k.err,k.fail⟩
  | none =>
   show Step 2 n H g v T (v+1) (foldS T os) (gj H1 g1 data).1 (gj H1 g1 data).2.1 (gj H1 g1 data).2.2
   rcases cz H1.dp.dead with hdd | hdd
   ·
    have hm:=k.may.mono (dL _) (fun _ _ h=>h)
    have hw:=pz (fR (g1.stamp+1) data) H1 g1.next
    unfold gj fC
    generalize fZ (fR (g1.stamp+1) data) H1 g1.next=q at *
    obtain ⟨b,r2⟩:=q
    obtain ⟨u1,u2,-,u4,u5,u6,u7⟩:=hw
    simp only at u1 u2 u4 u5 u6 u7
    obtain ⟨u8,u9⟩:=u4 hdd
    have m:May n b (g.stamp+2) (fun w U=>(w=v∧U=T)∨(w=v+1∧U=foldS T os)):=fun j=>by
     rw [u9,u1]
     obtain ⟨w,U,hc,u⟩:=hm j
     exact ⟨w,U,.inl (hc.elim id id),u⟩
    cases r2 with
    | some f=>exact ⟨k.dp.trans u2,fun e=>(by cases e),m,by show g1.stamp+1≤_;omega,fun f i=>⟨(u5 f i).1,k.fail (u5 f i).2⟩,fun h=>k.fail (u6 h)⟩
    | none =>
     have C:b.flush.1.held=b.held∧b.flush.1.late=b.late∧b.dp.Same b.flush.1.dp∧b.flush.1.dp.dead=true∧(∀ f,b.flush.2=some f→1≤f∧0≤b.fail)∧(0≤b.flush.1.fail→0≤b.fail):=by
      unfold fx.flush
      split
      ·rename_i i
       exact ⟨rfl,rfl,.refl _,u8,fun f h=>(by cases h;exact ⟨af _,ru i⟩),jG⟩
      ·rw [mo u8,aB rfl]
       exact ⟨rfl,rfl,lD _,mo u8,fun f h=>(by cases h),jG⟩
     obtain ⟨f1,f2,f3,f4,f5,f6⟩:=C
     show Step 2 n H g v T (v+1) (foldS T os) (pd g1 data b.flush).1 (pd g1 data b.flush).2.1 (pd g1 data b.flush).2.2
     generalize b.flush=q at *
     obtain ⟨x,J⟩:=q
     simp only at f1 f2 f3 f4 f5 f6
     have o:May n x (g.stamp+2) (fun w U=>(w=v∧U=T)∨(w=v+1∧U=foldS T os)):=fun j=>by
      rw [f2,f1]
      exact m j
     cases J with
     | some f=>exact ⟨(k.dp.trans u2).trans f3,fun e=>(by cases e),o,by show g1.stamp+1≤_;omega,fun f i=>⟨(f5 f i).1,k.fail (u6 (f5 f i).2)⟩,fun h=>k.fail (u6 (f6 h))⟩
     | none =>
      refine ⟨(k.dp.trans u2).trans f3,fun _ e => ?_,o,by show g1.stamp+1≤_;omega,fun f i=>(by cases i),fun h=>k.fail (u6 (f6 h))⟩
      rw [show (pd g1 data (x,none)).1.dp.dead=x.dp.dead from rfl,f4] at e
      cases e
   ·obtain ⟨D,O⟩:=B rfl hdd
    have F:=k.good rfl hdd
    have d:=vT F (by omega) y (by omega) (by rw [D];omega) hd
    have Q:=d.stamp
    refine ⟨k.dp.trans d.dp,d.good,?_,?_,fun f i=>⟨(d.err f i).1,k.fail (d.err f i).2⟩,fun h=>k.fail (d.fail h)⟩
    ·exact fun j=>by
      obtain ⟨w,U,hc,u⟩:=d.may j
      exact ⟨w,U,by
       rcases hc with h | h
       ·exact .inl h
       ·exact .inr h,u.mono (by omega)⟩
    ·have:=d.stamp
     omega
 ·rw [au l]
  have k:=vT h (by omega) y (by omega) (by omega) hd
  exact ⟨k.dp,k.good,k.may.mono (dL _) fun _ _ h=>h,eF k.stamp,k.err,k.fail⟩
theorem y8:∀ (os:List qD) (d:DpS),d.dead=true→(d.run os).S=d.S∧(d.run os).log=d.log∧(d.run os).room=d.room∧(d.run os).dead=true
 | [],d,h=>⟨rfl,rfl,rfl,h⟩
 | o::os,d,h=>by
  have hs:d.step o=d.stop:=d.wu o (mo h)
  have:=y8 os (d.step o) (by rw [hs];exact mo h)
  rw [hs] at this
  show (((d.step o).run os).S=_∧_)
  rw [show (d.run (o::os))=(d.step o).run os from rfl,hs]
  exact this
theorem tX (d:DpS) (T:List E) (b:SortedE d.S) (i:SortedE T) (hk:∀ x∈T,inTab x.1) (j:overS T d.room=none) :
  (d.run (iQ d.S T)).room=d.room∧(∀ x∈(d.run (iQ d.S T)).S,x∈d.S∨x∈T)∧SortedE (d.run (iQ d.S T)).S∧
   ((d.run (iQ d.S T)).dead=false→d.dead=false∧(d.run (iQ d.S T)).S=T∧(d.run (iQ d.S T)).log=d.log++(iQ d.S T).map px):=by
 refine ⟨zC _ _,fun x l => ?_,(DpS.qM (iQ d.S T) b).1,fun hdd => ?_⟩
 ·rcases BX _ d x l with h | h
  ·exact .inl h
  ·exact .inr (E0 h)
 ·have hd:d.dead=false:=by
   rcases cz d.dead with h | h
   ·rw [(y8 _ d h).2.2.2] at hdd;cases hdd
   ·exact h
  refine ⟨hd,?_⟩
  have e:=Fb d T hd b i hk j
  rw [e] at hdd⊢
  by_cases hl:d.left<0
  ·obtain ⟨u1,u2⟩:=EO d (iQ d.S T) hl
   exact ⟨u1.trans (BQ b i),u2⟩
  ·have hle:(iQ d.S T).length≤d.left.toNat:=by
    unfold DpS.xA at hdd
    rw [au hl] at hdd
    have:=of_decide_eq_false hdd
    omega
   unfold DpS.xA
   rw [au hl,Nat.min_eq_right hle,bp]
   exact ⟨BQ b i,rfl⟩
theorem jH {v:Nat} (h:isVersionB v=true):v<18446744073709551615:=by
 unfold isVersionB at h
 simp only [dI,de] at h
 exact h.2
structure TabOk (n:Nat) (room:Nat→Int) (v:Nat) (T:List E):Prop where
 sorted:SortedE T
 good:∀ x∈T,EntGood x
 over:overS T room=none
 size:sizeS T≤16*(n-8)
 zero:v=0→T=[]
 ver:v≠0→isVersionB v=true
 v64:v<18446744073709551615
theorem TabOk.tab {n:Nat} {room:Nat→Int} {v:Nat} {T:List E} (h:TabOk n room v T):∀ x∈T,inTab x.1:=fun x b=>⟨(h.good x b).1,(h.good x b).2.1⟩
theorem TabOk.len {n:Nat} {l:List Int} {v:Nat} {T:List E} (h:TabOk n (roomN l) v T):T.length≤120:=(ThereOk.len (l:=l) (P:=fun _=>True) ⟨h.sorted,h.tab,uE h.over,fun _ _=>cI⟩)
theorem TabOk.nil (n:Nat) (l:List Int):TabOk n (roomN l) 0 []:=⟨SortedE.nil,fun _ h=>(by cases h),by
 have b:=(jT l 0).1
 have h1:=(jT l 1).1
 have h2:=(jT l 2).1
 unfold overS
 rw [au (by show ¬(roomN l 0<((0:Nat):Int));omega),au (by show ¬(roomN l 1<((0:Nat):Int));omega),au (by show ¬(roomN l 2<((0:Nat):Int));omega)],aK _,fun _=>rfl,fun h=>absurd rfl h,by omega⟩
theorem uz {T:List E} {room:Nat→Int} {n:Nat} (h:gZ T room n=none):overS T room=none∧sizeS T≤16*(n-8):=by
 unfold gZ at h
 split at h
 ·cases h
 ·rename_i b
  split at h
  ·cases h
  ·exact ⟨b,by omega⟩
def uw (P:PAg):gS→Prop
 | .delta v os=>v=P.a.V+1∧isVersionB v=true∧oU (iG v os) = .inl (v,os)∧0<(iG v os).length∧(iG v os).length≤700∧∀ x∈foldS P.a.T os,EntGood x
 | .state v T=>P.a.V<v∧isVersionB v=true∧SortedE T∧∀ x∈T,EntGood x
structure UpAg (n:Nat) (l:List Int) (H:fx) (P:PAg):Prop where
 disk:DiskUp n H P.lg P.a.V P.a.T
 dpS:H.dp.S=P.a.T
 room:H.dp.room=roomN l
 tab:TabOk n (roomN l) P.a.V P.a.T
 deg:P.a.deg=none
theorem uw.tab {n:Nat} {l:List Int} {H:fx} {P:PAg} {tk:gS} (h:uw P tk) (hu:UpAg n l H P) (hl:gZ (tk.T P.a.T) (roomN l) n=none):TabOk n (roomN l) tk.V (tk.T P.a.T)∧P.a.V<tk.V:=by
 obtain ⟨h1,h2⟩:=uz hl
 cases tk with
 | delta v os =>
  obtain ⟨g1,g2,g3,g4,g5,g6⟩:=h
  have b:=kh g2
  exact ⟨⟨nf os hu.tab.sorted,g6,h1,h2,fun e=>(by rw [show (gS.delta v os).V=v from rfl,g1] at e;omega),fun _=>g2,jH g2⟩,by show P.a.V<v;omega⟩
 | state v T =>
  obtain ⟨g1,g2,g3,g4⟩:=h
  exact ⟨⟨g3,g4,h1,h2,fun e=>(by rw [show (gS.state v T).V=v from rfl] at e;omega),fun _=>g2,jH g2⟩,g1⟩
theorem iS (a:AgA) (k:UInt8) (b:List UInt8):(a.put k b).deg=a.deg∧(a.put k b).V=a.V∧(a.put k b).T=a.T:=by
 unfold AgA.put
 split <;> exact ⟨rfl,rfl,rfl⟩
theorem E1 {n:Nat} {l:List Int} {H:fx} {P:PAg} {tk:gS} (hu:UpAg n l H P) (d:32≤n∧n≤128) (hs:P.lg.stamp+2<18446744073709551616) (h:uw P tk) (hl:gZ (tk.T P.a.T) (roomN l) n=none) :
  Step 2 n H P.lg P.a.V P.a.T tk.V (tk.T P.a.T) (tk.log H P).1 (tk.log H P).2.1 (tk.log H P).2.2:=by
 obtain ⟨b,-⟩:=h.tab hu hl
 have enc:∀ {v:Nat} {T:List E},TabOk n (roomN l) v T→v≠0→0<(ic v T).length∧(ic v T).length≤10+16*(n-8)∧im (ic v T) = .inl (v,T):=fun {v T} k i=>by
  rw [nQ]
  exact ⟨by omega,by have:=k.size;omega,yE (k.ver i) k.sorted k.good (by have:=k.len;omega)⟩
 cases tk with
 | delta v os =>
  obtain ⟨rfl,g2,g3,g4,g5,g6⟩:=h
  exact Ej hu.disk d hs g4 g5 g3 (enc hu.tab)
 | state v T =>
  obtain ⟨g1,g2,g3,g4⟩:=h
  obtain ⟨j,m,o⟩:=enc b (by show v≠0;omega)
  obtain ⟨k,-,-⟩:=wm hu.disk d (by omega) j m o
  exact ⟨k.dp,k.good,k.may.mono (dL _) fun _ _ h=>h,eF k.stamp,k.err,k.fail⟩
structure Hj (n:Nat) (l:List Int) (H:fx) (P:PAg) (tk:gS) (H':fx) (P':PAg):Prop where
 may:May n H' (P.lg.stamp+2) (fun w U=>(w=P.a.V∧U=P.a.T)∨(w=tk.V∧U=tk.T P.a.T))
 mem:∀ x∈H'.dp.S,x∈P.a.T∨x∈tk.T P.a.T
 sorted:SortedE H'.dp.S
 room:H'.dp.room=roomN l
 fail:0≤H'.fail→0≤H.fail
 stamp:P'.lg.stamp≤P.lg.stamp+2
 alive:H'.dp.dead=false→(UpAg n l H' P'∧P'.a=P.a.takes tk (roomN l) n∧P'.sec=P.sec∧H'.dp.log=H.dp.log++P.a.done tk (roomN l) n)∨
  (P'.a=P.a.stops (12,0)∧1≤P'.sec∧0≤H.fail∧H'.dp.S=P.a.T∧H'.dp.log=H.dp.log)
theorem zM {n:Nat} {l:List Int} {H:fx} {P:PAg} {tk:gS} (hu:UpAg n l H P) (G:32≤n∧n≤128) (hs:P.lg.stamp+2<18446744073709551616) (h:uw P tk) (hl:gZ (tk.T P.a.T) (roomN l) n=none) :
  Hj n l H P tk (jB H P tk).1 (jB H P tk).2:=by
 have k:=E1 hu G hs h hl
 obtain ⟨d,-⟩:=h.tab hu hl
 have hlen:H.seen.length=n:=by rw [hu.disk.seen,hu.disk.len]
 have e:jB H P tk=sS P tk (tk.log H P):=by
  unfold jB
  rw [hu.room,hlen,hl]
 rw [e]
 generalize tk.log H P=q at *
 obtain ⟨H1,g1,r⟩:=q
 obtain ⟨j,D,o,s,u,y⟩:=k
 simp only at j D o s u y
 have i:H1.dp.S=P.a.T:=j.1.trans hu.dpS
 have m:H1.dp.room=roomN l:=j.2.2.trans hu.room
 cases r with
 | some f=>exact ⟨o,fun x B => .inl (by rw [←i];exact B),by show SortedE H1.dp.S;rw [i];exact hu.tab.sorted,m,y,s,fun _ => .inr ⟨rfl,(u f rfl).1,(u f rfl).2,i,j.2.1⟩⟩
 | none =>
  obtain ⟨E,I,J,M⟩:=tX H1.dp (tk.T P.a.T) (by rw [i];exact hu.tab.sorted) d.sorted d.tab (by rw [m];exact d.over)
  refine ⟨o,fun x B => ?_,J,E.trans m,y,s,fun hdd => .inl ?_⟩
  ·rcases I x B with h | h
   ·exact .inl (by rw [←i];exact h)
   ·exact .inr h
  ·obtain ⟨c1,c2,c3⟩:=M hdd
   have b:=D rfl c1
   obtain ⟨N,F,C⟩:=iS {P.a with V:=tk.V,T:=tk.T P.a.T} 17 (j4 tk.V)
   refine ⟨⟨⟨b.seen,b.late,b.len,b.stamps,?_,b.next,hdd⟩,?_,E.trans m,?_,N.trans hu.deg⟩,?_,rfl,?_⟩
   ·show DiskInv decSB decDB foldS [] (H1.held.map parseSec) (placeOf n) g1.slot (AgA.put {P.a with V:=tk.V,T:=tk.T P.a.T} 17 (j4 tk.V)).V (AgA.put {P.a with V:=tk.V,T:=tk.T P.a.T} 17 (j4 tk.V)).T g1.next
    rw [F,C]
    exact b.inv
   ·exact c2.trans C.symm
   ·show TabOk n (roomN l) (AgA.put {P.a with V:=tk.V,T:=tk.T P.a.T} 17 (j4 tk.V)).V (AgA.put {P.a with V:=tk.V,T:=tk.T P.a.T} 17 (j4 tk.V)).T
    rw [F,C]
    exact d
   ·unfold AgA.takes
    rw [hl]
    rfl
   ·refine c3.trans ?_
    rw [j.2.1,i]
    unfold AgA.done
    rw [hl]
theorem zx {d:List (List UInt8)} {s:Nat} (h:stampsLe d s):gm d≤s:=by
 have key:∀ (d:List (List UInt8)) (m:Nat),m≤s→stampsLe d s→d.foldl (fun m b=>max m (parseSec b).stamp) m≤s:=by
  intro d
  induction d with
  | nil=>exact fun m h _=>h
  | cons b d ih=>exact fun m hm hd=>ih _ (by have:=hd b (by simp);show max m (parseSec b).stamp≤s;omega) fun x i=>hd x (by simp [i])
 exact key d 0 (aK _) h
theorem yu (d:List (List UInt8)):stampsLe d (gm d):=by
 have key:∀ (d:List (List UInt8)) (m:Nat),m≤d.foldl (fun m b=>max m (parseSec b).stamp) m∧stampsLe d (d.foldl (fun m b=>max m (parseSec b).stamp) m):=by
  intro d
  induction d with
  | nil=>exact fun m=>⟨af _,fun x h=>(by cases h)⟩
  | cons b d ih =>
   intro m
   obtain ⟨h1,h2⟩:=ih (max m (parseSec b).stamp)
   rw [List.foldl_cons]
   refine ⟨by omega,fun x i => ?_⟩
   rcases aT.1 i with rfl | i
   ·omega
   ·exact h2 x i
 exact (key d 0).2
theorem od {n s v:Nat} {d:List (List UInt8)} {T:List E} (h:kL n d s v T):∃ g,zH d=(g,v,T)∧g.stamp≤s∧stampsLe d g.stamp∧g.next≤n∧DiskInv decSB decDB foldS [] (d.map parseSec) (placeOf n) g.slot v T g.next:=by
 obtain ⟨h1,h2,slot,next,h3,h4⟩:=h
 obtain ⟨b,v0,i,f1,f2⟩:=h4.found
 have hl:(d.map parseSec).length=n:=by rw [aG,h1]
 refine ⟨⟨gm d,slot,next⟩,?_,zx h2,yu d,h3,h4⟩
 unfold zH
 simp only [hl]
 rw [f1]
 simp only
 have:=f2 (n+1) (by omega)
 rw [this]
inductive Started (n:Nat) (l:List Int) (C:Nat→List E→Prop) (s:Nat) (H H':fx):PAg⊕(Nat×Nat×Nat)→Prop
 | bad (f:Nat) (h1:1≤f) (h2:0≤H.fail) (h3:H'.dp=H.dp) (h4:May n H' s C) (h5:H'.fail = -1) (h6:H'.seen=H.seen∧H'.held=H.held∧H'.late=[]):Started n l C s H H' (.inr (12,0,f))
 | good (P:PAg) (v:Nat) (T:List E) (h1:C v T) (h2:P.a=begunA v T∧P.sec=0) (h3:May n H' s C) (h4:∀ x∈H'.dp.S,x∈H.dp.S∨x∈T) (h5:SortedE H'.dp.S) (h6:H'.dp.room=roomN l) (h7:0≤H'.fail→0≤H.fail) (h8:P.lg.stamp≤s)
   (h9:H'.dp.dead=false→UpAg n l H' P):Started n l C s H H' (.inl P)
theorem jk (v:Nat) (T:List E):(begunA v T).V=v∧(begunA v T).T=T∧(begunA v T).deg=none:=by
 obtain ⟨b,d,i⟩:=iS ⟨v,T,[],none,none⟩ 16 (j4 v)
 exact ⟨d,i,b⟩
theorem uh {n:Nat} {l:List Int} {C:Nat→List E→Prop} {s:Nat} {H:fx} (hm:May n H s C) (u:∀ v T,C v T→TabOk n (roomN l) v T) (hl:H.late=[]) (hs:H.seen=H.held) (x:SortedE H.dp.S) (i:H.dp.room=roomN l) :
  Started n l C s H (gO H).1 (gO H).2:=by
 obtain ⟨v,T,hc,d⟩:=hm fun _=>true
 rw [hl] at d
 have d:kL n H.held s v T:=d
 unfold gO readAll
 by_cases m:0≤H.fail∧H.fail<H.seen.length
 ·rw [aB m]
  exact .bad _ (by omega) m.1 rfl (fun j=>⟨v,T,hc,by rw [show ({H with fail := -1} : fx).late=[] from hl];exact d⟩) rfl ⟨rfl,rfl,hl⟩
 ·rw [au m]
  obtain ⟨g,y,g1,g2,g3,g4⟩:=od d
  simp only
  rw [hs,y]
  simp only
  have b:=u v T hc
  rw [i,b.over]
  obtain ⟨q,o,B⟩:=jk v T
  obtain ⟨r,D,F,G⟩:=tX H.dp T x b.sorted b.tab (by rw [i];exact b.over)
  refine .good _ v T hc ⟨rfl,rfl⟩ (fun j=>⟨v,T,hc,?_⟩) D F (r.trans i) (fun h => ?_) g1 fun hdd => ?_
  ·show kL n (applySel j 0 H.late H.held) s v T
   rw [hl]
   exact d
  ·have I:0≤(if H.fail<0 then H.fail else H.fail-(H.held.length:Int)):=h
   split at I <;> omega
  ·obtain ⟨c1,c2,c3⟩:=G hdd
   refine ⟨⟨rfl,hl,d.len,g2,?_,g3,hdd⟩,?_,r.trans i,?_,B⟩
   ·show DiskInv decSB decDB foldS [] (H.held.map parseSec) (placeOf n) g.slot (begunA v T).V (begunA v T).T g.next
    rw [q,o]
    exact g4
   ·exact c2.trans o.symm
   ·show TabOk n (roomN l) (begunA v T).V (begunA v T).T
    rw [q,o]
    exact b
theorem tf {n:Nat} {s:Nat} {C:Nat→List E→Prop} {H:fx} (hm:May n H s C) (mask cut fail:Int) :
  May n (H.again mask cut fail) s C∧(H.again mask cut fail).late=[]∧(H.again mask cut fail).seen=(H.again mask cut fail).held∧(H.again mask cut fail).dp.S=H.dp.S∧(H.again mask cut fail).dp.room=H.dp.room∧(0≤(H.again mask cut fail).fail→0≤fail):=by
 obtain ⟨v,T,hc,b⟩:=hm (oc mask)
 exact ⟨fun d=>⟨v,T,hc,b⟩,rfl,rfl,rfl,rfl,fun h=>(by have i:0≤max fail (-1):=h;omega)⟩
theorem yA (n:Nat) (l:List Int) (d:32≤n∧n≤128):May n (mc n (roomN l)) 0 (fun v T=>v=0∧T=[])∧(mc n (roomN l)).late=[]∧(mc n (roomN l)).seen=(mc n (roomN l)).held∧(mc n (roomN l)).dp=⟨-1,false,roomN l,[],[]⟩∧(mc n (roomN l)).fail = -1:=by
 have j:=iT d.1 d.2
 refine ⟨fun m=>⟨0,[],⟨rfl,rfl⟩,?_⟩,rfl,rfl,rfl,rfl⟩
 show kL n (List.replicate n ib) 0 0 []
 refine ⟨bu,fun b i => ?_,0,2*placeOf n,by omega,EI decSB decDB foldS [] n (placeOf n)⟩
 rw [(List.mem_replicate.1 i).2,uF]
 exact af _
theorem uX {a a1:AgA} {frame:List UInt8} (h:a.taken frame=(a1,none)):a1.V=a.V∧a1.T=a.T∧a1.deg=a.deg:=by
 have i:∀ (a:AgA) (k:UInt8) (b:List UInt8),(a.put k b).V=a.V∧(a.put k b).T=a.T∧(a.put k b).deg=a.deg:=fun a k b=>⟨(iS a k b).2.1,(iS a k b).2.2,(iS a k b).1⟩
 have d:∀ (a:AgA) (k:Nat),(a.bad k).V=a.V∧(a.bad k).T=a.T∧(a.bad k).deg=a.deg:=fun a k=>by
  obtain ⟨h1,h2,h3⟩:=i (a.gy k) 16 (j4 (a.gy k).V)
  obtain ⟨g1,g2,g3⟩:=i a 18 [UInt8.ofNat k]
  exact ⟨h1.trans g1,h2.trans g2,h3.trans g3⟩
 unfold AgA.taken at h
 split at h
 ·cases h
  exact i _ _ _
 ·split at h
  ·cases h
   exact d _ _
  ·split at h
   ·unfold AgA.delta at h
    split at h
    ·cases h;exact d _ _
    ·split at h
     ·cases h;exact i _ _ _
     ·split at h
      ·cases h;exact i _ _ _
      ·cases h
   ·split at h
    ·injection h with h _
     subst h
     split
     ·exact i _ _ _
     ·exact d _ _
    ·split at h
     ·injection h with h _
      subst h
      unfold AgA.pa
      split
      ·exact d _ _
      ·split
       ·exact d _ _
       ·split
        ·exact d _ _
        ·split
         ·exact d _ _
         ·split
          ·exact i _ _ _
          ·exact i _ _ _
     ·split at h
      ·unfold AgA.piece at h
       split at h
       ·cases h;exact d _ _
       ·split at h
        ·cases h;exact d _ _
        ·split at h
         ·cases h;exact i _ _ _
         ·split at h
          ·cases h;exact i _ _ _
          ·split at h
           ·cases h;exact i _ _ _
           ·unfold AgA.l9 at h
            split at h
            ·cases h;exact d _ _
            ·split at h
             ·cases h;exact d _ _
             ·split at h
              ·cases h;exact i _ _ _
              ·cases h
      ·cases h;exact d _ _
theorem oJ {a a1:AgA} {frame:List UInt8} {tk:gS} (h:a.taken frame=(a1,some tk)) (j:SortedE a.T) (l:∀ x∈a.T,EntGood x) (sec:Nat) (lg:LogS):a.deg=none∧a1.V=a.V∧a1.T=a.T∧a1.deg=a.deg∧a1.out=a.out∧uw ⟨a1,sec,lg⟩ tk:=by
 unfold AgA.taken at h
 split at h
 ·cases h
 ·rename_i hd
  have hd:a.deg=none:=Option.not_isSome_iff_eq_none.1 hd
  refine ⟨hd,?_⟩
  split at h
  ·cases h
  ·split at h
   ·unfold AgA.delta at h
    split at h
    ·cases h
    ·rename_i v os b
     split at h
     ·cases h
     ·split at h
      ·cases h
      ·cases h
       have i:=b
       rw [nP] at i
       obtain ⟨hw,he⟩:=sY _ _ _ i
       have hl:=jR hw
       have d:isVersionB v=true:=by
        unfold gE at hw
        split at hw
        ·cases hw
        ·rename_i d
         simpa using d
       refine ⟨rfl,rfl,rfl,rfl,by show v=a.V+1;omega,d,by rw [he];exact b,by omega,by omega,?_⟩
       exact ((⟨af _,j,l⟩:jq a.T.length a.T).fold hw).good
   ·split at h
    ·cases h
    ·split at h
     ·cases h
     ·split at h
      ·unfold AgA.piece at h
       split at h
       ·cases h
       ·split at h
        ·cases h
        ·split at h
         ·cases h
         ·split at h
          ·cases h
          ·split at h
           ·cases h
           ·unfold AgA.l9 at h
            split at h
            ·cases h
            ·rename_i v T b
             split at h
             ·cases h
             ·split at h
              ·cases h
              ·cases h
               refine ⟨rfl,rfl,rfl,rfl,?_,(np b).1,(po b).2,(np b).2.1⟩
               simp only at *
               omega
      ·cases h
end Go.Proofs.YtkkfmkhbdoeglaaGreatDoor
