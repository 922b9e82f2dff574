/- A part of what is proved here: lemmas and contracts of single functions. No condition but those that each names. -/
import Derived.Test.YtkkfmkhbdoeglaaGreatDoorG00
import Derived.Test.YtkkfmkhbdoeglaaGreatDoorG05
set_option maxHeartbeats 2000000
set_option maxRecDepth 100000
namespace Go.Proofs.YtkkfmkhbdoeglaaGreatDoor
open Go.RowKit
def gd (os:List OpB):List Value:=os.flatMap fun o=>[.int .i64 o.kind,.int .i64 o.table,.string ⟨o.key.toArray⟩,.string ⟨o.val.toArray⟩]
theorem jk (os:List OpB):(gd os).length=os.length*4:=by
 induction os with
 | nil=>rfl
 | cons o os ih=>simp only [gd,cQ,ar,au,aJ] at ih⊢;omega
theorem nB (os us:List OpB):gd (os++us)=gd os++gd us:=by simp [gd]
theorem nC:∀ (os:List OpB) (k:Nat) (h:k<os.length),
  (gd os)[k*4]?=some (.int .i64 os[k].kind)∧(gd os)[k*4+1]?=some (.int .i64 os[k].table)∧(gd os)[k*4+2]?=some (.string ⟨os[k].key.toArray⟩)∧(gd os)[k*4+3]?=some (.string ⟨os[k].val.toArray⟩)
 | o::os,0,h=>⟨rfl,rfl,rfl,rfl⟩
 | o::os,k+1,h=>by
  have ih:=nC os k (by simpa using h)
  have e:∀ j,(k+1)*4+j=4+(k*4+j):=fun j=>by omega
  have b:∀ j,(gd (o::os))[4+j]?=(gd os)[j]?:=fun j=>by
   rw [Nat.add_comm];rfl
  refine ⟨?_,?_,?_,?_⟩
  ·have:=e 0;simp only [cC] at this;rw [this,b];exact ih.1
  ·rw [e,b];exact ih.2.1
  ·rw [e,b];exact ih.2.2.1
  ·rw [e,b];exact ih.2.2.2
def iu (w:World) (v:Value) (os:List OpB):Prop:=fR w v 4 os.length (gd os)
theorem iu.opened {w:World} {v:Value} {os:List OpB} (h:iu w v os) :
  ∃ a cap,v = .slice a os.length cap∧os.length≤cap∧∀ k (h:k<os.length),∃ b off,a=some ⟨b,off,none⟩∧w.cell? ⟨b,off+k*4,none⟩=some (.int .i64 os[k].kind)∧w.cell? ⟨b,off+k*4+1,none⟩=some (.int .i64 os[k].table)∧w.cell? ⟨b,off+k*4+2,none⟩=some (.string ⟨os[k].key.toArray⟩)∧w.cell? ⟨b,off+k*4+3,none⟩=some (.string ⟨os[k].val.toArray⟩):=by
 obtain ⟨_,a,cap,rfl,hc,d⟩:=h
 refine ⟨a,cap,rfl,hc,fun k hk => ?_⟩
 have hl:=jk os
 obtain ⟨i,h1,h2,h3⟩:=nC os k hk
 obtain ⟨b,off,rfl,c0⟩:=d (k*4) (by omega)
 obtain ⟨o,q,j,c1⟩:=d (k*4+1) (by omega)
 cases j
 obtain ⟨r,s,l,c2⟩:=d (k*4+2) (by omega)
 cases l
 obtain ⟨u,x,m,c3⟩:=d (k*4+3) (by omega)
 cases m
 rw [ay (by omega)] at i h1 h2 h3
 refine ⟨b,off,rfl,?_,?_,?_,?_⟩
 ·rw [c0,i]
 ·rw [aW,c1,h1]
 ·rw [aW,c2,h2]
 ·rw [aW,c3,h3]
theorem iu.below {w w':World} {v:Value} {os:List OpB} (h:iu w v os) (b:Below w.heap.size w w'):iu w' v os:=fR.below h b
def jN (w:World) (base:Nat) (v:Value) (f:Option (Nat×Nat)):Prop:=∃ fp,v = .pointer fp∧uQ w base fp f
theorem jN.new {W:World} {r:Value} (w:World) (base:Nat) (b d:Int) (k n:Nat) (hk:b=k) (i:d=n) (g:Nat) (j:g=w.heap.size) (h:base≤g) (l:r = .pointer (some ⟨g,0,none⟩)) (m:W=w.alloc (.cells #[.int .i64 b,.int .i64 d,.nilIface] 166)) :
  jN W base r (some (k,n)):=by
 subst hk i l m j
 exact ⟨_,rfl,w.heap.size,rfl,h,fL _ _⟩
def jP (os:List OpB):Prop:=∀ o∈os,o.key.length≤gx∧o.val.length≤gx
theorem zL (v:Nat) (l:Value) (os:List OpB) (w:World) (hs:iu w l os) (d:isVersionB v=false∨os.length<1∨8<os.length) :
  Calls Tryz.prog 98 #[.agg #[.int .u64 v,l]] w fun e w'=>(∃ r,e = .returned r∧jN w' w.heap.size r (gB v os))∧Below w.heap.size w w':=by
 obtain ⟨a,cap,rfl,o,-⟩:=hs.opened
 clear hs
 cases b:isVersionB v with
 | false =>
  have i:gB v os=some (4,0):=by unfold gB;rw [aF b]
  rw [i]
  clear i
  go_enter Tryz.func98,Tryz.ntmps98
  go_wp2_with (first
   | (go_at_call 100;refine (jh v _).mono ?_;rintro e w' ⟨rfl,rfl⟩;rw [b])
   | (go_at_call 85;refine (gE _ _ _).mono ?_;rintro e w' ⟨rfl,rfl⟩))
  go_ret
  refine ⟨⟨_,rfl,jN.new _ _ 4 0 4 0 rfl rfl (w.heap.size+1) (by simp) (by omega) rfl rfl⟩,?_⟩
  ·exact ((Below.refl _ w).alloc (ah _) _).alloc (by simp) _
 | true =>
  have j:os.length<1∨8<os.length:=d.resolve_left (by rw [b];decide)
  have i:gB v os=some (5,0):=by unfold gB;rw [aw (by rw [b];decide),aF j]
  rw [i]
  clear i d
  generalize os.length=n at *
  rcases j with j | j
  ·have m:(n:Int)<1:=by omega
   go_enter Tryz.func98,Tryz.ntmps98
   go_wp2_with (first
    | (go_at_call 100;refine (jh v _).mono ?_;rintro e w' ⟨rfl,rfl⟩;rw [b])
    | (go_at_call 85;refine (gE _ _ _).mono ?_;rintro e w' ⟨rfl,rfl⟩))
   go_ret
   refine ⟨⟨_,rfl,jN.new _ _ 5 0 5 0 rfl rfl (w.heap.size+1) (by simp) (by omega) rfl rfl⟩,?_⟩
   ·exact ((Below.refl _ w).alloc (ah _) _).alloc (by simp) _
  ·have m:(8:Int)<n:=by omega
   have q:¬(n:Int)<1:=by omega
   go_enter Tryz.func98,Tryz.ntmps98
   go_wp2_with (first
    | (go_at_call 100;refine (jh v _).mono ?_;rintro e w' ⟨rfl,rfl⟩;rw [b])
    | (go_at_call 85;refine (gE _ _ _).mono ?_;rintro e w' ⟨rfl,rfl⟩))
   go_ret
   refine ⟨⟨_,rfl,jN.new _ _ 5 0 5 0 rfl rfl (w.heap.size+1) (by simp) (by omega) rfl rfl⟩,?_⟩
   ·exact ((Below.refl _ w).alloc (ah _) _).alloc (by simp) _
end Go.Proofs.YtkkfmkhbdoeglaaGreatDoor
namespace Go.Proofs.YtkkfmkhbdoeglaaGreatDoor
open Go.RowKit
def gY (os:List OpB):List K:=os.map fun o=>(o.table,o.key)
theorem p9 (os:List OpB) (k:Nat) (h:k<os.length):gY (os.take (k+1))=gY (os.take k)++[(os[k].table,os[k].key)]:=by
 unfold gY
 rw [aO h,bC]
 rfl
theorem wL (os:List OpB) (k:Nat) (h:k<os.length):fV k (gY (os.take k)) (os.drop k) =
  if ij os[k] (gY (os.take k))=0 then fV (k+1) (gY (os.take (k+1))) (os.drop (k+1)) else some (ij os[k] (gY (os.take k)),k):=by
 rw [cd h,p9 os k h]
 rfl
theorem tW {b T:Int} {d i:List UInt8} {j:List K} (h:¬(b<1∨2<b∨T<0∨2<T)) (h1:iw T d=false):ij ⟨b,T,d,i⟩ j=7:=by
 unfold ij
 rw [aw h,aF h1]
theorem rk {b T:Int} {d j:List UInt8} {i:List K} (h:¬(b<1∨2<b∨T<0∨2<T)) (h1:iw T d=true) (h2:i.contains (T,d)=true):ij ⟨b,T,d,j⟩ i=8:=by
 unfold ij
 rw [aw h,h1,aw (by decide),aF h2]
theorem tX {b T:Int} {d i:List UInt8} {j:List K} (h:¬(b<1∨2<b∨T<0∨2<T)) (h1:iw T d=true) (h2:j.contains (T,d)=false) (h3:od ⟨b,T,d,i⟩=false):ij ⟨b,T,d,i⟩ j=9:=by
 unfold ij
 rw [aw h,h1,aw (by decide),h2,aw (by decide),aF h3]
theorem gM.fW {w w':World} {r:Nat} {b:List K} (h:gM w r b) (d:w'.heap[r]?=w.heap[r]?):gM w' r b:=fS.fW h d
theorem yt (v:Nat) (sv:Value) (os:List OpB) (w:World) (hs:iu w sv os) (hg:ShapesVar w) (bS:jP os) (hv:isVersionB v=true) (h1:1≤os.length) (h8:os.length≤8) :
  Calls Tryz.prog 98 #[.agg #[.int .u64 v,sv]] w fun e w'=>(∃ r,e = .returned r∧jN w' w.heap.size r (fV 0 [] os))∧Below w.heap.size w w':=by
 have bx:=hs
 obtain ⟨a,cap,rfl,bX,hx⟩:=hs.opened
 clear hx hs
 have HS:=ae bx
 clear bx
 obtain ⟨n,hn⟩:∃ n,n=os.length:=⟨_,rfl⟩
 have HN:=ae hn
 have dv:¬(n:Int)<1:=by omega
 have dT:¬ 8<(n:Int):=by omega
 have d0:n≤8:=by omega
 have HS:Hid (iu w (.slice a n cap) os):=ae (by rw [hn];exact HS.out)
 rw [←hn]
 rw [←hn] at bX
 clear hn h1 h8
 have b8:∀ w,(Instr.makeMap 242 (some (.int .i64 (n:Int)))).run Tryz.prog w = .ok (.map (some w.heap.size)) (w.alloc (.map #[] 0)):=fun w=>by
  simp [Instr.makeMap,aN Tryz.underlying242,asInt,asIntOf,Result.andThen]
 go_enter Tryz.func98,Tryz.ntmps98
 go_wp2_with (go_at_call 100;refine (jh v _).mono ?_;rintro e w' ⟨rfl,rfl⟩;rw [hv])
 generalize a6:(w.alloc (.cells #[.int .u64 (v:Int),.slice a n cap] 34)).alloc (.map #[] 0)=w1
 have s1:w1.heap.size=w.heap.size+1+1:=by rw [←a6];simp
 have e1:Below w.heap.size w w1:=by rw [←a6];exact ((Below.refl _ w).alloc (ah _) _).alloc (by simp) _
 have m1:gM w1 (w.heap.size+1) []:=by rw [←a6];have:=fS.new (w.alloc (.cells #[.int .u64 (v:Int),.slice a n cap] 34));simpa [gM] using this
 clear a6 b8
 have bk:=ae s1
 have bl:=ae m1
 clear s1 m1
 go_loopw [29] (fun i wr=>∃ k:Nat,k≤n∧i = .int .i64 k∧gM wr (w.heap.size+1) (gY (os.take k))∧Ext (fun j=>j=w.heap.size+1) w1 wr∧fV 0 [] os=fV k (gY (os.take k)) (os.drop k)) (fun i _=>n-(intOf i).toNat)
 case atStart=>exact ⟨0,by omega,rfl,bl.out,Ext.refl _ _,rfl⟩
 case round =>
  obtain ⟨k,hk,rfl,bz,a7,aa⟩:=hrel
  have m:Below w.heap.size w wr:=e1.trans (a7.below (by have:=bk.out;omega) (fun j hj e=>by omega))
  have d1:=a7.size
  by_cases cb:k<n
  ·have a9:k<os.length:=by rw [←HN.out];exact cb
   obtain ⟨a',cap',he,ce,hx⟩:=(iu.below HS.out m).opened
   cases he
   obtain ⟨b,off,rfl,c0,c1,c2,c3⟩:=hx k a9
   clear hx ce
   rw [wL os k a9] at aa
   have bD:=bS os[k] (cF a9)
   have bH:=ae (p9 os k a9)
   obtain ⟨F,T,d,M,ho⟩:∃ F T d M,os[k]=⟨F,T,d,M⟩:=⟨_,_,_,_,rfl⟩
   rw [ho] at c0 c1 c2 c3 aa bD
   have HO:=ae ho
   have D:=ae aa
   have J:=ae bz
   clear ho aa bz
   obtain ⟨bI,ci⟩:=bD
   have c7:(k:Int)<os.length:=by omega
   have c8:(os.length:Int)≤8:=by omega
   have d2:=fP c0
   by_cases a4:F<1∨2<F∨T<0∨2<T
   ·have G:Hid (fV 0 [] os=some (6,k)):=ae (by rw [D.out,ij,aF a4];rfl)
    have cl:F<1∨(1≤F∧2<F)∨(1≤F∧F≤2∧T<0)∨(1≤F∧F≤2∧0≤T∧3≤T):=by omega
    clear a4
    rcases cl with h1 | ⟨h1,h2⟩ | ⟨h1,h2,h3⟩ | ⟨h1,h2,h3,h4⟩
    all_goals
     go_wp2_with (go_at_call 85;refine (gE _ _ _).mono ?_;rintro e w' ⟨rfl,rfl⟩)
     go_ret
     rw [G.out]
     exact ⟨⟨_,rfl,jN.new _ _ 6 k 6 k rfl rfl (wr.heap.size+1) (by simp) (by have:=m.size;omega) rfl rfl⟩,((m.alloc m.size _).alloc (by simp;have:=m.size;omega) _)⟩
   ·skip
    obtain ⟨co,am,ap⟩:(F=1∨F=2)∧0≤T∧T<3:=by omega
    clear a4
    have bL:ShapesVar wr:=hg.new m
    rcases co with rfl | rfl
    ·go_wp2_with fail
     refine (oG T d _ (bL.alloc _) am ap bI).mono ?_
     rintro e w2 ⟨rfl,C⟩
     have cp:wr.heap.size+1≤w2.heap.size:=by simpa using C.size
     have N:Below w.heap.size w w2:=(m.alloc m.size (.cells #[.int .i64 1,.int .i64 T,.string ⟨d.toArray⟩,.string ⟨M.toArray⟩] 96)).trans (C.mono (by simp;have:=m.size;omega))
     have B2:=ae (fK C (by simp) (fL wr (.cells #[.int .i64 1,.int .i64 T,.string ⟨d.toArray⟩,.string ⟨M.toArray⟩] 96)))
     have M2:Hid (gM w2 (w.heap.size+1) (gY (os.take k))):=ae (gM.fW J.out ((C.block _ (by simp;have:=J.out.lt;omega)).trans (heap_alloc_old _ _ J.out.lt)))
     have X2:Ext (fun j=>j=w.heap.size+1) w1 w2:=(a7.alloc _).qj C
     cases O:iw T d with
     | false =>
      have G:Hid (fV 0 [] os=some (7,k)):=ae (by rw [D.out,tW (by omega) O];rfl)
      go_wp2_with (go_at_call 85;refine (gE _ _ _).mono ?_;rintro e w' ⟨rfl,rfl⟩)
      go_ret
      rw [G.out]
      exact ⟨⟨_,rfl,jN.new _ _ 7 k 7 k rfl rfl w2.heap.size rfl (by have:=m.size;omega) rfl rfl⟩,N.alloc N.size _⟩
     | true =>
      have Q:=ae O
      clear O
      have hzero:∀ u:World,(zeroValue 3).run Tryz.prog u = .ok (.int .i64 0) u:=fun u=>by kernel_rfl
      obtain ⟨W1,st,hE,R,av,cq,aE⟩:=fS.entry M2.out (mt:=242) (e:=3) (z := .int .i64 0) Tryz.underlying242 hzero (T,d)
      have L0:=fun n=>fS.lookup (w:=w2.drewN n) (fS.fW M2.out rfl) (mt:=242) (e:=3) (z := .int .i64 0) Tryz.underlying242 (hzero _) (T,d)
      have S:=fun n=>fS.lookup (w:=W1.drewN n) (fS.fW R rfl) (mt:=242) (e:=3) (z := .int .i64 0) Tryz.underlying242 (hzero _) (T,d)
      rw [lP] at S
      obtain ⟨cnt,s⟩:∃ cnt:Int,cnt=if (gY (os.take k)).contains (T,d) then 1 else 0:=⟨_,rfl⟩
      have a0:(nk (T,d) ((gY (os.take k)).map fun k=>(k,(Value.int .i64 1)))).getD (.int .i64 0) = .int .i64 cnt:=by rw [s];exact rU _ _
      obtain ⟨l,x,U,a1,cr⟩:=aE (.int .i64 (cnt+1))
      have V:=fun n=>fS.lookup (w:=l.drewN n) (fS.fW U rfl) (mt:=242) (e:=3) (z := .int .i64 0) Tryz.underlying242 (hzero _) (T,d)
      rw [lP] at V
      simp only [a0,bT] at hE x L0 S V
      simp only [kV,iX,goInt] at hE x L0 S V
      have ba:=ae U
      have bl:=ae R
      clear R U aE a0 hzero
      have cs:0≤cnt∧cnt≤1:=by rw [s];split <;> omega
      have W:=ae s
      clear s
      have b1:w2.cell? ⟨wr.heap.size,1,none⟩=some _:=af _ _ 1 _ _ _ B2.out
      have b2:w2.cell? ⟨wr.heap.size,2,none⟩=some _:=af _ _ 2 _ _ _ B2.out
      have ct:=J.out.lt
      have B3:=ae (carry av B2.out (by omega))
      have I:=ae (carry a1 B3.out (by omega))
      have d8:W1.cell? ⟨wr.heap.size,1,none⟩=some _:=af _ _ 1 _ _ _ B3.out
      have d9:W1.cell? ⟨wr.heap.size,2,none⟩=some _:=af _ _ 2 _ _ _ B3.out
      have cu:l.cell? ⟨wr.heap.size,0,none⟩=some _:=af _ _ 0 _ _ _ I.out
      have eb:l.cell? ⟨wr.heap.size,1,none⟩=some _:=af _ _ 1 _ _ _ I.out
      have b6:l.cell? ⟨wr.heap.size,2,none⟩=some _:=af _ _ 2 _ _ _ I.out
      have b7:l.cell? ⟨wr.heap.size,3,none⟩=some _:=af _ _ 3 _ _ _ I.out
      have b3:=fI B2.out
      have b4:=fI B3.out
      have bw:=fI I.out
      have bo:=L0 1
      have br:=S 1
      have X:=V 1
      have bs:=hE 1
      have y:=x 1
      have E:∀ w:World,w.drewN 1=w.drew:=fun _=>rfl
      rw [E] at bo br X
      rw [E,E] at bs y
      clear L0 S V hE x E
      have XW:Ext (fun j=>j=w.heap.size+1) w1 l.drew:=((X2.grow av (.inl rfl)).grow a1 (.inl rfl)).drew
      have B:Below w.heap.size w l.drew:=e1.trans (XW.below (by have:=bk.out;omega) (fun j hj e=>by omega))
      have Y:=B.size
      have bM:ShapesVar l.drew:=hg.new B
      have b5:w2.heap.size=l.heap.size:=by omega
      cases q:(gY (os.take k)).contains (T,d) with
      | true =>
       obtain rfl:cnt=1:=by rw [W.out,q];rfl
       simp only [Int.reduceAdd] at y X
       have G:Hid (fV 0 [] os=some (8,k)):=ae (by rw [D.out,rk (by omega) Q.out q];rfl)
       clear q
       go_wp2
       go_region
       go_wp2_with (go_at_call 85;refine (gE _ _ _).mono ?_;rintro e w' ⟨rfl,rfl⟩)
       rename Ending.returned _=Ending.returned _=>hq
       cases hq
       go_ret
       rw [G.out]
       exact ⟨⟨_,rfl,jN.new l.drew _ 8 k 8 k rfl rfl l.heap.size rfl (by simpa using Y) rfl rfl⟩,B.alloc B.size _⟩
      | false =>
       obtain rfl:cnt=0:=by rw [W.out,q];rfl
       simp only [Int.reduceAdd] at y X
       have Z:=ae q
       clear q
       go_wp2
       go_region
       go_wp2_with fail
       refine (p8 T M _ bM am ap ci).mono ?_
       rintro e w4 ⟨rfl,a2⟩
       have bN:=a2.size
       cases bb:gG T M with
       | false =>
        have G:Hid (fV 0 [] os=some (9,k)):=ae (by rw [D.out,tX (by omega) Q.out Z.out (show od ⟨1,T,d,M⟩=false from bb)];rfl)
        clear bb
        go_wp2_with (go_at_call 85;refine (gE _ _ _).mono ?_;rintro e w' ⟨rfl,rfl⟩)
        go_ret
        rw [G.out]
        exact ⟨⟨_,rfl,jN.new _ _ 9 k 9 k rfl rfl w4.heap.size rfl (by simp at bN Y;omega) rfl rfl⟩,(B.trans (a2.mono Y)).alloc (by simp at bN Y;omega) _⟩
       | true =>
        have cB:=ae bb
        clear bb
        have B5:=ae (fK a2 (fI (b:=wr.heap.size) (w:=l.drew) I.out) (w:=l.drew) I.out)
        have d3:w4.cell? ⟨wr.heap.size,0,none⟩=some _:=af _ _ 0 _ _ _ B5.out
        have c5:=fI B5.out
        go_wp2
        go_roundw
        case rel =>
         have e1:=qQ (T,d) (gY (os.take k)) Z.out
         refine ⟨k+1,by omega,by go_num,?_,(XW.qj a2),?_⟩
         ·rw [bH.out,HO.out]
          have hm:=ba.out
          unfold gM
          rw [←e1]
          exact fS.fW hm (a2.block _ (by have:=ba.out.lt;simpa using this))
         ·rw [D.out,lC (o:=⟨1,T,d,M⟩) (.inl rfl) am ap Q.out Z.out cB.out]
          rfl
        case measure=>simp [intOf];omega
    ·go_wp2_with fail
     refine (oG T d _ (bL.alloc _) am ap bI).mono ?_
     rintro e w2 ⟨rfl,C⟩
     have cp:wr.heap.size+1≤w2.heap.size:=by simpa using C.size
     have N:Below w.heap.size w w2:=(m.alloc m.size (.cells #[.int .i64 2,.int .i64 T,.string ⟨d.toArray⟩,.string ⟨M.toArray⟩] 96)).trans (C.mono (by simp;have:=m.size;omega))
     have B2:=ae (fK C (by simp) (fL wr (.cells #[.int .i64 2,.int .i64 T,.string ⟨d.toArray⟩,.string ⟨M.toArray⟩] 96)))
     have M2:Hid (gM w2 (w.heap.size+1) (gY (os.take k))):=ae (gM.fW J.out ((C.block _ (by simp;have:=J.out.lt;omega)).trans (heap_alloc_old _ _ J.out.lt)))
     have X2:Ext (fun j=>j=w.heap.size+1) w1 w2:=(a7.alloc _).qj C
     cases O:iw T d with
     | false =>
      have G:Hid (fV 0 [] os=some (7,k)):=ae (by rw [D.out,tW (by omega) O];rfl)
      go_wp2_with (go_at_call 85;refine (gE _ _ _).mono ?_;rintro e w' ⟨rfl,rfl⟩)
      go_ret
      rw [G.out]
      exact ⟨⟨_,rfl,jN.new _ _ 7 k 7 k rfl rfl w2.heap.size rfl (by have:=m.size;omega) rfl rfl⟩,N.alloc N.size _⟩
     | true =>
      have Q:=ae O
      clear O
      have hzero:∀ u:World,(zeroValue 3).run Tryz.prog u = .ok (.int .i64 0) u:=fun u=>by kernel_rfl
      obtain ⟨W1,st,hE,R,av,cq,aE⟩:=fS.entry M2.out (mt:=242) (e:=3) (z := .int .i64 0) Tryz.underlying242 hzero (T,d)
      have L0:=fun n=>fS.lookup (w:=w2.drewN n) (fS.fW M2.out rfl) (mt:=242) (e:=3) (z := .int .i64 0) Tryz.underlying242 (hzero _) (T,d)
      have S:=fun n=>fS.lookup (w:=W1.drewN n) (fS.fW R rfl) (mt:=242) (e:=3) (z := .int .i64 0) Tryz.underlying242 (hzero _) (T,d)
      rw [lP] at S
      obtain ⟨cnt,s⟩:∃ cnt:Int,cnt=if (gY (os.take k)).contains (T,d) then 1 else 0:=⟨_,rfl⟩
      have a0:(nk (T,d) ((gY (os.take k)).map fun k=>(k,(Value.int .i64 1)))).getD (.int .i64 0) = .int .i64 cnt:=by rw [s];exact rU _ _
      obtain ⟨l,x,U,a1,cr⟩:=aE (.int .i64 (cnt+1))
      have V:=fun n=>fS.lookup (w:=l.drewN n) (fS.fW U rfl) (mt:=242) (e:=3) (z := .int .i64 0) Tryz.underlying242 (hzero _) (T,d)
      rw [lP] at V
      simp only [a0,bT] at hE x L0 S V
      simp only [kV,iX,goInt] at hE x L0 S V
      have ba:=ae U
      have bl:=ae R
      clear R U aE a0 hzero
      have cs:0≤cnt∧cnt≤1:=by rw [s];split <;> omega
      have W:=ae s
      clear s
      have b1:w2.cell? ⟨wr.heap.size,1,none⟩=some _:=af _ _ 1 _ _ _ B2.out
      have b2:w2.cell? ⟨wr.heap.size,2,none⟩=some _:=af _ _ 2 _ _ _ B2.out
      have ct:=J.out.lt
      have B3:=ae (carry av B2.out (by omega))
      have I:=ae (carry a1 B3.out (by omega))
      have d8:W1.cell? ⟨wr.heap.size,1,none⟩=some _:=af _ _ 1 _ _ _ B3.out
      have d9:W1.cell? ⟨wr.heap.size,2,none⟩=some _:=af _ _ 2 _ _ _ B3.out
      have cu:l.cell? ⟨wr.heap.size,0,none⟩=some _:=af _ _ 0 _ _ _ I.out
      have eb:l.cell? ⟨wr.heap.size,1,none⟩=some _:=af _ _ 1 _ _ _ I.out
      have b6:l.cell? ⟨wr.heap.size,2,none⟩=some _:=af _ _ 2 _ _ _ I.out
      have b7:l.cell? ⟨wr.heap.size,3,none⟩=some _:=af _ _ 3 _ _ _ I.out
      have b3:=fI B2.out
      have b4:=fI B3.out
      have bw:=fI I.out
      have bo:=L0 1
      have br:=S 1
      have X:=V 1
      have bs:=hE 1
      have y:=x 1
      have E:∀ w:World,w.drewN 1=w.drew:=fun _=>rfl
      rw [E] at bo br X
      rw [E,E] at bs y
      clear L0 S V hE x E
      have XW:Ext (fun j=>j=w.heap.size+1) w1 l.drew:=((X2.grow av (.inl rfl)).grow a1 (.inl rfl)).drew
      have B:Below w.heap.size w l.drew:=e1.trans (XW.below (by have:=bk.out;omega) (fun j hj e=>by omega))
      have Y:=B.size
      have bM:ShapesVar l.drew:=hg.new B
      have b5:w2.heap.size=l.heap.size:=by omega
      cases q:(gY (os.take k)).contains (T,d) with
      | true =>
       obtain rfl:cnt=1:=by rw [W.out,q];rfl
       simp only [Int.reduceAdd] at y X
       have G:Hid (fV 0 [] os=some (8,k)):=ae (by rw [D.out,rk (by omega) Q.out q];rfl)
       clear q
       go_wp2
       go_region
       go_wp2_with (go_at_call 85;refine (gE _ _ _).mono ?_;rintro e w' ⟨rfl,rfl⟩)
       rename Ending.returned _=Ending.returned _=>hq
       cases hq
       go_ret
       rw [G.out]
       exact ⟨⟨_,rfl,jN.new l.drew _ 8 k 8 k rfl rfl l.heap.size rfl (by simpa using Y) rfl rfl⟩,B.alloc B.size _⟩
      | false =>
       obtain rfl:cnt=0:=by rw [W.out,q];rfl
       simp only [Int.reduceAdd] at y X
       have Z:=ae q
       clear q
       go_wp2
       go_region
       by_cases bc:M=[]
       ·subst bc
        go_wp2
        go_roundw
        case rel =>
         have e1:=qQ (T,d) (gY (os.take k)) Z.out
         refine ⟨k+1,by omega,by go_num,?_,XW,?_⟩
         ·rw [bH.out,HO.out]
          have hm:=ba.out
          unfold gM
          rw [←e1]
          exact fS.fW hm rfl
         ·rw [D.out,lC (o:=⟨2,T,d,[]⟩) (.inr rfl) am ap Q.out Z.out rfl]
          rfl
        case measure=>simp [intOf];omega
       ·have G:Hid (fV 0 [] os=some (9,k)):=ae (by rw [D.out,tX (by omega) Q.out Z.out (by simpa [od] using bc)];rfl)
        obtain ⟨vx,vs,rfl⟩:=List.exists_cons_of_ne_nil bc
        clear bc
        go_wp2_with (go_at_call 85;refine (gE _ _ _).mono ?_;rintro e w' ⟨rfl,rfl⟩)
        rename Ending.returned _=Ending.returned _=>hq
        cases hq
        go_ret
        rw [G.out]
        exact ⟨⟨_,rfl,jN.new l.drew _ 9 k 9 k rfl rfl l.heap.size rfl (by simpa using Y) rfl rfl⟩,B.alloc B.size _⟩
  ·have bO:k=n:=by omega
   have HF:Hid (fV 0 [] os=none):=ae (by rw [aa,bO,HN.out,List.drop_length];rfl)
   have d4:¬(k:Int)<n:=by omega
   clear aa bO
   go_wp2
   go_ret
   rw [HF.out]
   exact ⟨⟨_,rfl,none,rfl,rfl⟩,m⟩
end Go.Proofs.YtkkfmkhbdoeglaaGreatDoor
namespace Go.Proofs.YtkkfmkhbdoeglaaGreatDoor
open Go.RowKit
theorem nM (v:Nat) (d:Value) (os:List OpB) (w:World) (hs:iu w d os) (l:ShapesVar w) (i:jP os) :
  Calls Tryz.prog 98 #[.agg #[.int .u64 v,d]] w fun e w'=>(∃ r,e = .returned r∧jN w' w.heap.size r (gB v os))∧Below w.heap.size w w':=by
 by_cases b:isVersionB v=false∨os.length<1∨8<os.length
 ·exact zL v d os w hs b
 ·have j:isVersionB v=true:=by cases h:isVersionB v with | true=>rfl | false=>exact absurd (.inl h) b
  have h1:1≤os.length:=by omega
  have h8:os.length≤8:=by omega
  have e:gB v os=fV 0 [] os:=by unfold gB;rw [aw (by rw [j];decide),aw (by omega)]
  rw [e]
  exact yt v d os w hs l i j h1 h8
end Go.Proofs.YtkkfmkhbdoeglaaGreatDoor
