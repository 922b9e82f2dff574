/- A part of what is proved here: lemmas and contracts of single functions. No condition but those that each names. -/
import Derived.Test.YtkkfmkhbdoeglabGreatDoorG00
import Derived.Test.YtkkfmkhbdoeglabGreatDoorG06
set_option maxHeartbeats 2000000
set_option maxRecDepth 100000
namespace Go.Proofs.YtkkfmkhbdoeglabGreatDoor
open Go.RowKit
def gx (os:List OpB):List Value:=os.flatMap fun o=>[.int .i64 o.kind,.int .i64 o.table,.string ⟨o.key.toArray⟩,.string ⟨o.val.toArray⟩]
theorem jw (os:List OpB):(gx os).length=os.length*4:=by
 induction os with
 | nil=>rfl
 | cons o os ih=>simp only [gx,cP,aq,ar,aJ] at ih⊢;omega
theorem nT (os us:List OpB):gx (os++us)=gx os++gx us:=by simp [gx]
theorem nU:∀ (os:List OpB) (k:Nat) (h:k<os.length),
  (gx os)[k*4]?=some (.int .i64 os[k].kind)∧(gx os)[k*4+1]?=some (.int .i64 os[k].table)∧(gx os)[k*4+2]?=some (.string ⟨os[k].key.toArray⟩)∧(gx os)[k*4+3]?=some (.string ⟨os[k].val.toArray⟩)
 | o::os,0,h=>⟨rfl,rfl,rfl,rfl⟩
 | o::os,k+1,h=>by
  have ih:=nU os k (by simpa using h)
  have e:∀ j,(k+1)*4+j=4+(k*4+j):=fun j=>by omega
  have b:∀ j,(gx (o::os))[4+j]?=(gx os)[j]?:=fun j=>by
   rw [Nat.add_comm];rfl
  refine ⟨?_,?_,?_,?_⟩
  ·have:=e 0;simp only [cz] at this;rw [this,b];exact ih.1
  ·rw [e,b];exact ih.2.1
  ·rw [e,b];exact ih.2.2.1
  ·rw [e,b];exact ih.2.2.2
def ix (w:World) (v:Value) (os:List OpB):Prop:=fW w v 4 os.length (gx os)
theorem ix.opened {w:World} {v:Value} {os:List OpB} (h:ix w v os) :
  ∃ a cap,v = .slice a os.length cap∧os.length≤cap∧∀ k (h:k<os.length),∃ b off,a=some ⟨b,off,none⟩∧w.cell? ⟨b,off+k*4,none⟩=some (.int .i64 os[k].kind)∧w.cell? ⟨b,off+k*4+1,none⟩=some (.int .i64 os[k].table)∧w.cell? ⟨b,off+k*4+2,none⟩=some (.string ⟨os[k].key.toArray⟩)∧w.cell? ⟨b,off+k*4+3,none⟩=some (.string ⟨os[k].val.toArray⟩):=by
 obtain ⟨_,a,cap,rfl,hc,d⟩:=h
 refine ⟨a,cap,rfl,hc,fun k hk => ?_⟩
 have hl:=jw os
 obtain ⟨i,h1,h2,h3⟩:=nU os k hk
 obtain ⟨b,off,rfl,c0⟩:=d (k*4) (by omega)
 obtain ⟨o,q,j,c1⟩:=d (k*4+1) (by omega)
 cases j
 obtain ⟨r,s,l,c2⟩:=d (k*4+2) (by omega)
 cases l
 obtain ⟨u,x,m,c3⟩:=d (k*4+3) (by omega)
 cases m
 rw [ay (by omega)] at i h1 h2 h3
 refine ⟨b,off,rfl,?_,?_,?_,?_⟩
 ·rw [c0,i]
 ·rw [aW,c1,h1]
 ·rw [aW,c2,h2]
 ·rw [aW,c3,h3]
theorem ix.below {w w':World} {v:Value} {os:List OpB} (h:ix w v os) (b:Below w.heap.size w w'):ix w' v os:=fW.below h b
def jX (w:World) (base:Nat) (v:Value) (f:Option (Nat×Nat)):Prop:=∃ fp,v = .pointer fp∧vt w base fp f
theorem jX.new {W:World} {r:Value} (w:World) (base:Nat) (b d:Int) (k n:Nat) (hk:b=k) (i:d=n) (g:Nat) (j:g=w.heap.size) (h:base≤g) (l:r = .pointer (some ⟨g,0,none⟩)) (m:W=w.alloc (.cells #[.int .i64 b,.int .i64 d,.nilIface] 186)) :
  jX W base r (some (k,n)):=by
 subst hk i l m j
 exact ⟨_,rfl,w.heap.size,rfl,h,fR _ _⟩
def lF (os:List OpB):Prop:=∀ o∈os,o.key.length≤gF∧o.val.length≤gF
theorem Aj (v:Nat) (l:Value) (os:List OpB) (w:World) (hs:ix w l os) (d:isVersionB v=false∨os.length<1∨8<os.length) :
  Calls Tryz.prog 131 #[.agg #[.int .u64 v,l]] w fun e w'=>(∃ r,e = .returned r∧jX w' w.heap.size r (gK v os))∧Below w.heap.size w w':=by
 obtain ⟨a,cap,rfl,o,-⟩:=hs.opened
 clear hs
 cases b:isVersionB v with
 | false =>
  have i:gK v os=some (4,0):=by unfold gK;rw [aD b]
  rw [i]
  clear i
  go_enter Tryz.func131,Tryz.ntmps131
  go_wp2_with (first
   | (go_at_call 158;refine (jO v _).mono ?_;rintro e w' ⟨rfl,rfl⟩;rw [b])
   | (go_at_call 107;refine (gI _ _ _).mono ?_;rintro e w' ⟨rfl,rfl⟩))
  go_ret
  refine ⟨⟨_,rfl,jX.new _ _ 4 0 4 0 rfl rfl (w.heap.size+1) (by simp) (by omega) rfl rfl⟩,?_⟩
  ·exact ((Below.refl _ w).alloc (af _) _).alloc (by simp) _
 | true =>
  have j:os.length<1∨8<os.length:=d.resolve_left (by rw [b];decide)
  have i:gK v os=some (5,0):=by unfold gK;rw [au (by rw [b];decide),aD j]
  rw [i]
  clear i d
  generalize os.length=n at *
  rcases j with j | j
  ·have m:(n:Int)<1:=by omega
   go_enter Tryz.func131,Tryz.ntmps131
   go_wp2_with (first
    | (go_at_call 158;refine (jO v _).mono ?_;rintro e w' ⟨rfl,rfl⟩;rw [b])
    | (go_at_call 107;refine (gI _ _ _).mono ?_;rintro e w' ⟨rfl,rfl⟩))
   go_ret
   refine ⟨⟨_,rfl,jX.new _ _ 5 0 5 0 rfl rfl (w.heap.size+1) (by simp) (by omega) rfl rfl⟩,?_⟩
   ·exact ((Below.refl _ w).alloc (af _) _).alloc (by simp) _
  ·have m:(8:Int)<n:=by omega
   have q:¬(n:Int)<1:=by omega
   go_enter Tryz.func131,Tryz.ntmps131
   go_wp2_with (first
    | (go_at_call 158;refine (jO v _).mono ?_;rintro e w' ⟨rfl,rfl⟩;rw [b])
    | (go_at_call 107;refine (gI _ _ _).mono ?_;rintro e w' ⟨rfl,rfl⟩))
   go_ret
   refine ⟨⟨_,rfl,jX.new _ _ 5 0 5 0 rfl rfl (w.heap.size+1) (by simp) (by omega) rfl rfl⟩,?_⟩
   ·exact ((Below.refl _ w).alloc (af _) _).alloc (by simp) _
end Go.Proofs.YtkkfmkhbdoeglabGreatDoor
namespace Go.Proofs.YtkkfmkhbdoeglabGreatDoor
open Go.RowKit
def il (os:List OpB):List K:=os.map fun o=>(o.table,o.key)
theorem qf (os:List OpB) (k:Nat) (h:k<os.length):il (os.take (k+1))=il (os.take k)++[(os[k].table,os[k].key)]:=by
 unfold il
 rw [aT h,bm]
 rfl
theorem xp (os:List OpB) (k:Nat) (h:k<os.length):gi k (il (os.take k)) (os.drop k) =
  if iD os[k] (il (os.take k))=0 then gi (k+1) (il (os.take (k+1))) (os.drop (k+1)) else some (iD os[k] (il (os.take k)),k):=by
 rw [b9 h,qf os k h]
 rfl
theorem uw {b T:Int} {d i:List UInt8} {j:List K} (h:¬(b<1∨2<b∨T<0∨2<T)) (h1:iz T d=false):iD ⟨b,T,d,i⟩ j=7:=by
 unfold iD
 rw [au h,aD h1]
theorem ry {b T:Int} {d j:List UInt8} {i:List K} (h:¬(b<1∨2<b∨T<0∨2<T)) (h1:iz T d=true) (h2:i.contains (T,d)=true):iD ⟨b,T,d,j⟩ i=8:=by
 unfold iD
 rw [au h,h1,au (by decide),aD h2]
theorem ux {b T:Int} {d i:List UInt8} {j:List K} (h:¬(b<1∨2<b∨T<0∨2<T)) (h1:iz T d=true) (h2:j.contains (T,d)=false) (h3:o5 ⟨b,T,d,i⟩=false):iD ⟨b,T,d,i⟩ j=9:=by
 unfold iD
 rw [au h,h1,au (by decide),h2,au (by decide),aD h3]
theorem gQ.gr {w w':World} {r:Nat} {b:List K} (h:gQ w r b) (d:w'.heap[r]?=w.heap[r]?):gQ w' r b:=fY.gr h d
theorem yZ (v:Nat) (sv:Value) (os:List OpB) (w:World) (hs:ix w sv os) (hg:ShapesVar w) (bS:lF os) (hv:isVersionB v=true) (h1:1≤os.length) (h8:os.length≤8) :
  Calls Tryz.prog 131 #[.agg #[.int .u64 v,sv]] w fun e w'=>(∃ r,e = .returned r∧jX w' w.heap.size r (gi 0 [] os))∧Below w.heap.size w w':=by
 have bx:=hs
 obtain ⟨a,cap,rfl,bX,hx⟩:=hs.opened
 clear hx hs
 have HS:=ab bx
 clear bx
 obtain ⟨n,hn⟩:∃ n,n=os.length:=⟨_,rfl⟩
 have HN:=ab hn
 have dT:¬(n:Int)<1:=by omega
 have d0:¬ 8<(n:Int):=by omega
 have d1:n≤8:=by omega
 have HS:Hid (ix w (.slice a n cap) os):=ab (by rw [hn];exact HS.out)
 rw [←hn]
 rw [←hn] at bX
 clear hn h1 h8
 have b8:∀ w,(Instr.makeMap 271 (some (.int .i64 (n:Int)))).run Tryz.prog w = .ok (.map (some w.heap.size)) (w.alloc (.map #[] 0)):=fun w=>by
  simp [Instr.makeMap,aL Tryz.underlying271,asInt,asIntOf,Result.andThen]
 go_enter Tryz.func131,Tryz.ntmps131
 go_wp2_with (go_at_call 158;refine (jO v _).mono ?_;rintro e w' ⟨rfl,rfl⟩;rw [hv])
 generalize a7:(w.alloc (.cells #[.int .u64 (v:Int),.slice a n cap] 51)).alloc (.map #[] 0)=w1
 have s1:w1.heap.size=w.heap.size+1+1:=by rw [←a7];simp
 have e1:Below w.heap.size w w1:=by rw [←a7];exact ((Below.refl _ w).alloc (af _) _).alloc (by simp) _
 have m1:gQ w1 (w.heap.size+1) []:=by rw [←a7];have:=fY.new (w.alloc (.cells #[.int .u64 (v:Int),.slice a n cap] 51));simpa [gQ] using this
 clear a7 b8
 have bk:=ab s1
 have bl:=ab m1
 clear s1 m1
 go_loopw [29] (fun i wr=>∃ k:Nat,k≤n∧i = .int .i64 k∧gQ wr (w.heap.size+1) (il (os.take k))∧Ext (fun j=>j=w.heap.size+1) w1 wr∧gi 0 [] os=gi k (il (os.take k)) (os.drop k)) (fun i _=>n-(intOf i).toNat)
 case atStart=>exact ⟨0,by omega,rfl,bl.out,Ext.refl _ _,rfl⟩
 case round =>
  obtain ⟨k,hk,rfl,bz,a9,aa⟩:=hrel
  have m:Below w.heap.size w wr:=e1.trans (a9.below (by have:=bk.out;omega) (fun j hj e=>by omega))
  have d2:=a9.size
  by_cases cb:k<n
  ·have ba:k<os.length:=by rw [←HN.out];exact cb
   obtain ⟨a',cap',he,ce,hx⟩:=(ix.below HS.out m).opened
   cases he
   obtain ⟨b,off,rfl,c0,c1,c2,c3⟩:=hx k ba
   clear hx ce
   rw [xp os k ba] at aa
   have bD:=bS os[k] (cD ba)
   have bH:=ab (qf os k ba)
   obtain ⟨F,T,d,M,ho⟩:∃ F T d M,os[k]=⟨F,T,d,M⟩:=⟨_,_,_,_,rfl⟩
   rw [ho] at c0 c1 c2 c3 aa bD
   have HO:=ab ho
   have D:=ab aa
   have J:=ab bz
   clear ho aa bz
   obtain ⟨bI,cl⟩:=bD
   have c8:(k:Int)<os.length:=by omega
   have c9:(os.length:Int)≤8:=by omega
   have d3:=fU c0
   by_cases a5:F<1∨2<F∨T<0∨2<T
   ·have G:Hid (gi 0 [] os=some (6,k)):=ab (by rw [D.out,iD,aD a5];rfl)
    have co:F<1∨(1≤F∧2<F)∨(1≤F∧F≤2∧T<0)∨(1≤F∧F≤2∧0≤T∧3≤T):=by omega
    clear a5
    rcases co with h1 | ⟨h1,h2⟩ | ⟨h1,h2,h3⟩ | ⟨h1,h2,h3,h4⟩
    all_goals
     go_wp2_with (go_at_call 107;refine (gI _ _ _).mono ?_;rintro e w' ⟨rfl,rfl⟩)
     go_ret
     rw [G.out]
     exact ⟨⟨_,rfl,jX.new _ _ 6 k 6 k rfl rfl (wr.heap.size+1) (by simp) (by have:=m.size;omega) rfl rfl⟩,((m.alloc m.size _).alloc (by simp;have:=m.size;omega) _)⟩
   ·skip
    obtain ⟨cp,ap,av⟩:(F=1∨F=2)∧0≤T∧T<3:=by omega
    clear a5
    have bL:ShapesVar wr:=hg.new m
    rcases cp with rfl | rfl
    ·go_wp2_with fail
     refine (oV T d _ (bL.alloc _) ap av bI).mono ?_
     rintro e w2 ⟨rfl,C⟩
     have cq:wr.heap.size+1≤w2.heap.size:=by simpa using C.size
     have N:Below w.heap.size w w2:=(m.alloc m.size (.cells #[.int .i64 1,.int .i64 T,.string ⟨d.toArray⟩,.string ⟨M.toArray⟩] 105)).trans (C.mono (by simp;have:=m.size;omega))
     have B2:=ab (fQ C (by simp) (fR wr (.cells #[.int .i64 1,.int .i64 T,.string ⟨d.toArray⟩,.string ⟨M.toArray⟩] 105)))
     have M2:Hid (gQ w2 (w.heap.size+1) (il (os.take k))):=ab (gQ.gr J.out ((C.block _ (by simp;have:=J.out.lt;omega)).trans (heap_alloc_old _ _ J.out.lt)))
     have X2:Ext (fun j=>j=w.heap.size+1) w1 w2:=(a9.alloc _).rT C
     cases O:iz T d with
     | false =>
      have G:Hid (gi 0 [] os=some (7,k)):=ab (by rw [D.out,uw (by omega) O];rfl)
      go_wp2_with (go_at_call 107;refine (gI _ _ _).mono ?_;rintro e w' ⟨rfl,rfl⟩)
      go_ret
      rw [G.out]
      exact ⟨⟨_,rfl,jX.new _ _ 7 k 7 k rfl rfl w2.heap.size rfl (by have:=m.size;omega) rfl rfl⟩,N.alloc N.size _⟩
     | true =>
      have Q:=ab O
      clear O
      have hzero:∀ u:World,(zeroValue 3).run Tryz.prog u = .ok (.int .i64 0) u:=fun u=>by kernel_rfl
      obtain ⟨W1,st,hE,R,aE,cr,a0⟩:=fY.entry M2.out (mt:=271) (e:=3) (z := .int .i64 0) Tryz.underlying271 hzero (T,d)
      have L0:=fun n=>fY.lookup (w:=w2.drewN n) (fY.gr M2.out rfl) (mt:=271) (e:=3) (z := .int .i64 0) Tryz.underlying271 (hzero _) (T,d)
      have S:=fun n=>fY.lookup (w:=W1.drewN n) (fY.gr R rfl) (mt:=271) (e:=3) (z := .int .i64 0) Tryz.underlying271 (hzero _) (T,d)
      rw [lV] at S
      obtain ⟨cnt,s⟩:∃ cnt:Int,cnt=if (il (os.take k)).contains (T,d) then 1 else 0:=⟨_,rfl⟩
      have a1:(nE (T,d) ((il (os.take k)).map fun k=>(k,(Value.int .i64 1)))).getD (.int .i64 0) = .int .i64 cnt:=by rw [s];exact sp _ _
      obtain ⟨l,x,U,a2,cs⟩:=a0 (.int .i64 (cnt+1))
      have V:=fun n=>fY.lookup (w:=l.drewN n) (fY.gr U rfl) (mt:=271) (e:=3) (z := .int .i64 0) Tryz.underlying271 (hzero _) (T,d)
      rw [lV] at V
      simp only [a1,bR] at hE x L0 S V
      simp only [kV,jh,goInt] at hE x L0 S V
      have bb:=ab U
      have bl:=ab R
      clear R U a0 a1 hzero
      have ct:0≤cnt∧cnt≤1:=by rw [s];split <;> omega
      have W:=ab s
      clear s
      have b1:w2.cell? ⟨wr.heap.size,1,none⟩=some _:=ae _ _ 1 _ _ _ B2.out
      have b2:w2.cell? ⟨wr.heap.size,2,none⟩=some _:=ae _ _ 2 _ _ _ B2.out
      have cu:=J.out.lt
      have B3:=ab (carry aE B2.out (by omega))
      have I:=ab (carry a2 B3.out (by omega))
      have d9:W1.cell? ⟨wr.heap.size,1,none⟩=some _:=ae _ _ 1 _ _ _ B3.out
      have ea:W1.cell? ⟨wr.heap.size,2,none⟩=some _:=ae _ _ 2 _ _ _ B3.out
      have cv:l.cell? ⟨wr.heap.size,0,none⟩=some _:=ae _ _ 0 _ _ _ I.out
      have eb:l.cell? ⟨wr.heap.size,1,none⟩=some _:=ae _ _ 1 _ _ _ I.out
      have b6:l.cell? ⟨wr.heap.size,2,none⟩=some _:=ae _ _ 2 _ _ _ I.out
      have b7:l.cell? ⟨wr.heap.size,3,none⟩=some _:=ae _ _ 3 _ _ _ I.out
      have b3:=fO B2.out
      have b4:=fO B3.out
      have bw:=fO I.out
      have bo:=L0 1
      have br:=S 1
      have X:=V 1
      have bs:=hE 1
      have y:=x 1
      have E:∀ w:World,w.drewN 1=w.drew:=fun _=>rfl
      rw [E] at bo br X
      rw [E,E] at bs y
      clear L0 S V hE x E
      have XW:Ext (fun j=>j=w.heap.size+1) w1 l.drew:=((X2.grow aE (.inl rfl)).grow a2 (.inl rfl)).drew
      have B:Below w.heap.size w l.drew:=e1.trans (XW.below (by have:=bk.out;omega) (fun j hj e=>by omega))
      have Y:=B.size
      have bM:ShapesVar l.drew:=hg.new B
      have b5:w2.heap.size=l.heap.size:=by omega
      cases q:(il (os.take k)).contains (T,d) with
      | true =>
       obtain rfl:cnt=1:=by rw [W.out,q];rfl
       simp only [Int.reduceAdd] at y X
       have G:Hid (gi 0 [] os=some (8,k)):=ab (by rw [D.out,ry (by omega) Q.out q];rfl)
       clear q
       go_wp2
       go_region
       go_wp2_with (go_at_call 107;refine (gI _ _ _).mono ?_;rintro e w' ⟨rfl,rfl⟩)
       rename Ending.returned _=Ending.returned _=>hq
       cases hq
       go_ret
       rw [G.out]
       exact ⟨⟨_,rfl,jX.new l.drew _ 8 k 8 k rfl rfl l.heap.size rfl (by simpa using Y) rfl rfl⟩,B.alloc B.size _⟩
      | false =>
       obtain rfl:cnt=0:=by rw [W.out,q];rfl
       simp only [Int.reduceAdd] at y X
       have Z:=ab q
       clear q
       go_wp2
       go_region
       go_wp2_with fail
       refine (qe T M _ bM ap av cl).mono ?_
       rintro e w4 ⟨rfl,a3⟩
       have bN:=a3.size
       cases bc:gL T M with
       | false =>
        have G:Hid (gi 0 [] os=some (9,k)):=ab (by rw [D.out,ux (by omega) Q.out Z.out (show o5 ⟨1,T,d,M⟩=false from bc)];rfl)
        clear bc
        go_wp2_with (go_at_call 107;refine (gI _ _ _).mono ?_;rintro e w' ⟨rfl,rfl⟩)
        go_ret
        rw [G.out]
        exact ⟨⟨_,rfl,jX.new _ _ 9 k 9 k rfl rfl w4.heap.size rfl (by simp at bN Y;omega) rfl rfl⟩,(B.trans (a3.mono Y)).alloc (by simp at bN Y;omega) _⟩
       | true =>
        have c4:=ab bc
        clear bc
        have B5:=ab (fQ a3 (fO (b:=wr.heap.size) (w:=l.drew) I.out) (w:=l.drew) I.out)
        have d4:w4.cell? ⟨wr.heap.size,0,none⟩=some _:=ae _ _ 0 _ _ _ B5.out
        have c6:=fO B5.out
        go_wp2
        go_roundw
        case rel =>
         have e1:=qU (T,d) (il (os.take k)) Z.out
         refine ⟨k+1,by omega,by go_num,?_,(XW.rT a3),?_⟩
         ·rw [bH.out,HO.out]
          have hm:=bb.out
          unfold gQ
          rw [←e1]
          exact fY.gr hm (a3.block _ (by have:=bb.out.lt;simpa using this))
         ·rw [D.out,lI (o:=⟨1,T,d,M⟩) (.inl rfl) ap av Q.out Z.out c4.out]
          rfl
        case measure=>simp [intOf];omega
    ·go_wp2_with fail
     refine (oV T d _ (bL.alloc _) ap av bI).mono ?_
     rintro e w2 ⟨rfl,C⟩
     have cq:wr.heap.size+1≤w2.heap.size:=by simpa using C.size
     have N:Below w.heap.size w w2:=(m.alloc m.size (.cells #[.int .i64 2,.int .i64 T,.string ⟨d.toArray⟩,.string ⟨M.toArray⟩] 105)).trans (C.mono (by simp;have:=m.size;omega))
     have B2:=ab (fQ C (by simp) (fR wr (.cells #[.int .i64 2,.int .i64 T,.string ⟨d.toArray⟩,.string ⟨M.toArray⟩] 105)))
     have M2:Hid (gQ w2 (w.heap.size+1) (il (os.take k))):=ab (gQ.gr J.out ((C.block _ (by simp;have:=J.out.lt;omega)).trans (heap_alloc_old _ _ J.out.lt)))
     have X2:Ext (fun j=>j=w.heap.size+1) w1 w2:=(a9.alloc _).rT C
     cases O:iz T d with
     | false =>
      have G:Hid (gi 0 [] os=some (7,k)):=ab (by rw [D.out,uw (by omega) O];rfl)
      go_wp2_with (go_at_call 107;refine (gI _ _ _).mono ?_;rintro e w' ⟨rfl,rfl⟩)
      go_ret
      rw [G.out]
      exact ⟨⟨_,rfl,jX.new _ _ 7 k 7 k rfl rfl w2.heap.size rfl (by have:=m.size;omega) rfl rfl⟩,N.alloc N.size _⟩
     | true =>
      have Q:=ab O
      clear O
      have hzero:∀ u:World,(zeroValue 3).run Tryz.prog u = .ok (.int .i64 0) u:=fun u=>by kernel_rfl
      obtain ⟨W1,st,hE,R,aE,cr,a0⟩:=fY.entry M2.out (mt:=271) (e:=3) (z := .int .i64 0) Tryz.underlying271 hzero (T,d)
      have L0:=fun n=>fY.lookup (w:=w2.drewN n) (fY.gr M2.out rfl) (mt:=271) (e:=3) (z := .int .i64 0) Tryz.underlying271 (hzero _) (T,d)
      have S:=fun n=>fY.lookup (w:=W1.drewN n) (fY.gr R rfl) (mt:=271) (e:=3) (z := .int .i64 0) Tryz.underlying271 (hzero _) (T,d)
      rw [lV] at S
      obtain ⟨cnt,s⟩:∃ cnt:Int,cnt=if (il (os.take k)).contains (T,d) then 1 else 0:=⟨_,rfl⟩
      have a1:(nE (T,d) ((il (os.take k)).map fun k=>(k,(Value.int .i64 1)))).getD (.int .i64 0) = .int .i64 cnt:=by rw [s];exact sp _ _
      obtain ⟨l,x,U,a2,cs⟩:=a0 (.int .i64 (cnt+1))
      have V:=fun n=>fY.lookup (w:=l.drewN n) (fY.gr U rfl) (mt:=271) (e:=3) (z := .int .i64 0) Tryz.underlying271 (hzero _) (T,d)
      rw [lV] at V
      simp only [a1,bR] at hE x L0 S V
      simp only [kV,jh,goInt] at hE x L0 S V
      have bb:=ab U
      have bl:=ab R
      clear R U a0 a1 hzero
      have ct:0≤cnt∧cnt≤1:=by rw [s];split <;> omega
      have W:=ab s
      clear s
      have b1:w2.cell? ⟨wr.heap.size,1,none⟩=some _:=ae _ _ 1 _ _ _ B2.out
      have b2:w2.cell? ⟨wr.heap.size,2,none⟩=some _:=ae _ _ 2 _ _ _ B2.out
      have cu:=J.out.lt
      have B3:=ab (carry aE B2.out (by omega))
      have I:=ab (carry a2 B3.out (by omega))
      have d9:W1.cell? ⟨wr.heap.size,1,none⟩=some _:=ae _ _ 1 _ _ _ B3.out
      have ea:W1.cell? ⟨wr.heap.size,2,none⟩=some _:=ae _ _ 2 _ _ _ B3.out
      have cv:l.cell? ⟨wr.heap.size,0,none⟩=some _:=ae _ _ 0 _ _ _ I.out
      have eb:l.cell? ⟨wr.heap.size,1,none⟩=some _:=ae _ _ 1 _ _ _ I.out
      have b6:l.cell? ⟨wr.heap.size,2,none⟩=some _:=ae _ _ 2 _ _ _ I.out
      have b7:l.cell? ⟨wr.heap.size,3,none⟩=some _:=ae _ _ 3 _ _ _ I.out
      have b3:=fO B2.out
      have b4:=fO B3.out
      have bw:=fO I.out
      have bo:=L0 1
      have br:=S 1
      have X:=V 1
      have bs:=hE 1
      have y:=x 1
      have E:∀ w:World,w.drewN 1=w.drew:=fun _=>rfl
      rw [E] at bo br X
      rw [E,E] at bs y
      clear L0 S V hE x E
      have XW:Ext (fun j=>j=w.heap.size+1) w1 l.drew:=((X2.grow aE (.inl rfl)).grow a2 (.inl rfl)).drew
      have B:Below w.heap.size w l.drew:=e1.trans (XW.below (by have:=bk.out;omega) (fun j hj e=>by omega))
      have Y:=B.size
      have bM:ShapesVar l.drew:=hg.new B
      have b5:w2.heap.size=l.heap.size:=by omega
      cases q:(il (os.take k)).contains (T,d) with
      | true =>
       obtain rfl:cnt=1:=by rw [W.out,q];rfl
       simp only [Int.reduceAdd] at y X
       have G:Hid (gi 0 [] os=some (8,k)):=ab (by rw [D.out,ry (by omega) Q.out q];rfl)
       clear q
       go_wp2
       go_region
       go_wp2_with (go_at_call 107;refine (gI _ _ _).mono ?_;rintro e w' ⟨rfl,rfl⟩)
       rename Ending.returned _=Ending.returned _=>hq
       cases hq
       go_ret
       rw [G.out]
       exact ⟨⟨_,rfl,jX.new l.drew _ 8 k 8 k rfl rfl l.heap.size rfl (by simpa using Y) rfl rfl⟩,B.alloc B.size _⟩
      | false =>
       obtain rfl:cnt=0:=by rw [W.out,q];rfl
       simp only [Int.reduceAdd] at y X
       have Z:=ab q
       clear q
       go_wp2
       go_region
       by_cases be:M=[]
       ·subst be
        go_wp2
        go_roundw
        case rel =>
         have e1:=qU (T,d) (il (os.take k)) Z.out
         refine ⟨k+1,by omega,by go_num,?_,XW,?_⟩
         ·rw [bH.out,HO.out]
          have hm:=bb.out
          unfold gQ
          rw [←e1]
          exact fY.gr hm rfl
         ·rw [D.out,lI (o:=⟨2,T,d,[]⟩) (.inr rfl) ap av Q.out Z.out rfl]
          rfl
        case measure=>simp [intOf];omega
       ·have G:Hid (gi 0 [] os=some (9,k)):=ab (by rw [D.out,ux (by omega) Q.out Z.out (by simpa [o5] using be)];rfl)
        obtain ⟨vx,vs,rfl⟩:=List.exists_cons_of_ne_nil be
        clear be
        go_wp2_with (go_at_call 107;refine (gI _ _ _).mono ?_;rintro e w' ⟨rfl,rfl⟩)
        rename Ending.returned _=Ending.returned _=>hq
        cases hq
        go_ret
        rw [G.out]
        exact ⟨⟨_,rfl,jX.new l.drew _ 9 k 9 k rfl rfl l.heap.size rfl (by simpa using Y) rfl rfl⟩,B.alloc B.size _⟩
  ·have bO:k=n:=by omega
   have HF:Hid (gi 0 [] os=none):=ab (by rw [aa,bO,HN.out,List.drop_length];rfl)
   have d5:¬(k:Int)<n:=by omega
   clear aa bO
   go_wp2
   go_ret
   rw [HF.out]
   exact ⟨⟨_,rfl,none,rfl,rfl⟩,m⟩
end Go.Proofs.YtkkfmkhbdoeglabGreatDoor
namespace Go.Proofs.YtkkfmkhbdoeglabGreatDoor
open Go.RowKit
theorem oh (v:Nat) (d:Value) (os:List OpB) (w:World) (hs:ix w d os) (l:ShapesVar w) (i:lF os) :
  Calls Tryz.prog 131 #[.agg #[.int .u64 v,d]] w fun e w'=>(∃ r,e = .returned r∧jX w' w.heap.size r (gK v os))∧Below w.heap.size w w':=by
 by_cases b:isVersionB v=false∨os.length<1∨8<os.length
 ·exact Aj v d os w hs b
 ·have j:isVersionB v=true:=by cases h:isVersionB v with | true=>rfl | false=>exact absurd (.inl h) b
  have h1:1≤os.length:=by omega
  have h8:os.length≤8:=by omega
  have e:gK v os=gi 0 [] os:=by unfold gK;rw [au (by rw [j];decide),au (by omega)]
  rw [e]
  exact yZ v d os w hs l i j h1 h8
end Go.Proofs.YtkkfmkhbdoeglabGreatDoor
