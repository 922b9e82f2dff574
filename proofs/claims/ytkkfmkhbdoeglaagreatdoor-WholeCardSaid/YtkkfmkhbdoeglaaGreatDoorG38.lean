/- A part of what is proved here: lemmas and contracts of single functions. No condition but those that each names. -/
import Derived.Test.YtkkfmkhbdoeglaaGreatDoorG00
import Derived.Test.YtkkfmkhbdoeglaaGreatDoorG09
import Derived.Test.YtkkfmkhbdoeglaaGreatDoorG10
import Derived.Test.YtkkfmkhbdoeglaaGreatDoorG37
set_option maxHeartbeats 1000000
set_option maxRecDepth 100000
namespace Go.Proofs.YtkkfmkhbdoeglaaGreatDoor
open Go.RowKit
def kg (w:World) (v:Value) (l:List Int):Prop:=fR w v 1 l.length (l.map fun x => .int .i64 x)
theorem kg.opened {w:World} {v:Value} {l:List Int} (h:kg w v l) :
  ∃ a cap,v = .slice a l.length cap∧l.length≤cap∧∀ i (h:i<l.length),∃ b off,a=some ⟨b,off,none⟩∧w.cell? ⟨b,off+i,none⟩=some (.int .i64 l[i]):=by
 obtain ⟨_,a,cap,rfl,hc,j⟩:=h
 refine ⟨a,cap,rfl,hc,fun i m => ?_⟩
 obtain ⟨b,off,rfl,d⟩:=j i (by rw [aH];exact m)
 exact ⟨b,off,rfl,by rw [d];simp⟩
theorem kg.below {w w':World} {v:Value} {l:List Int} (h:kg w v l) (b:Below w.heap.size w w'):kg w' v l:=fR.below h b
def ig:List Int→List OpB→List OpB
 | a::b::r,os=>if os.length<8 then ig r (if (gY os).contains ((sJ a b).table,(sJ a b).key) then os else os++[sJ a b]) else os
 | _,os=>os
def gy (l:List Int):List OpB:=ig l [sJ l.length 1]
theorem vu:∀ (l:List Int) (os:List OpB),¬os.length<8→ig l os=os
 | [],os,_=>rfl
 | [_],os,_=>rfl
 | a::b::r,os,h=>by unfold ig;rw [aw h]
theorem um (l:List Int) (os:List OpB) (h:l.length<2):ig l os=os:=by
 match l,h with
 | [],_=>rfl
 | [_],_=>rfl
theorem qA:∀ (os:List OpB) (o:OpB) (i:Nat) (b:List K),fV i b os=none→ij o (b++gY os)=0→fV i b (os++[o])=none
 | [],o,i,b,_,h=>by
  simp only [gY,du,cN] at h
  simp [fV,h]
 | x::os,o,i,b,h1,h2=>by
  unfold fV at h1
  split at h1
  ·rename_i d
   rw [aX]
   unfold fV
   rw [aF d]
   refine qA os o (i+1) _ h1 ?_
   simpa [gY] using h2
  ·cases h1
theorem lT:∀ (n:Nat) (l:List Int) (os:List OpB),l.length≤n→fV 0 [] os=none→1≤os.length→os.length≤8→fV 0 [] (ig l os)=none∧1≤(ig l os).length∧(ig l os).length≤8
 | n,[],os,_,h,h1,h8=>⟨h,h1,h8⟩
 | n,[_],os,_,h,h1,h8=>⟨h,h1,h8⟩
 | 0,a::b::r,os,d,h,h1,h8=>by simp at d
 | n+1,a::b::r,os,d,h,h1,h8=>by
  unfold ig
  by_cases h9:os.length<8
  ·rw [aF h9]
   have i:r.length≤n:=by simp at d;omega
   cases hc:(gY os).contains ((sJ a b).table,(sJ a b).key) with
   | true=>exact lT n r os i h h1 h8
   | false =>
    refine lT n r _ i (qA os _ 0 [] h (vT a b _ (by simpa using hc))) ?_ ?_
    ·simp
    ·simp;omega
  ·rw [aw h9]
   exact ⟨h,h1,h8⟩
theorem kq (l:List Int) (v:Nat) (b:isVersionB v=true):gB v (gy l)=none:=by
 have d:fV 0 [] [sJ l.length 1]=none:=by
  unfold fV
  rw [aF (vT _ _ _ rfl)]
  rfl
 obtain ⟨h1,h2,h3⟩:=lT l.length l [sJ l.length 1] (ah _) d (by simp) (by simp)
 unfold gB gy
 rw [aw (by rw [b];decide),aw (by omega)]
 exact h1
theorem wR (l:List Int):1≤(gy l).length∧(gy l).length≤8:=by
 have b:fV 0 [] [sJ l.length 1]=none:=by
  unfold fV
  rw [aF (vT _ _ _ rfl)]
  rfl
 exact (lT l.length l [sJ l.length 1] (ah _) b (by simp) (by simp)).2
def kU (w1:World) (D v:Nat) (l:List Int) (i:Value) (wr:World):Prop :=
 ∃ (k:Nat) (os:List OpB) (b:Value),i = .int .i64 ((2*k:Nat):Int)∧2*k≤l.length+1∧gy l=ig (l.drop (2*k)) os∧1≤os.length∧os.length≤8∧
  wr.heap[D]?=some (.cells #[.int .u64 v,b] 34 (0,0))∧OwnS wr w1.heap.size 4 b os.length (gd os)∧b.ownBlock≠some D∧Below w1.heap.size w1 wr
def kW (b:World) (os:List OpB) (key:K) (t i:Value) (wr:World):Prop :=
 ∃ m:Nat,m≤os.length∧i = .int .i64 (m:Int)∧t = .bool ((gY (os.take m)).contains key)∧∃ q,wr=b.drewN q
theorem DU (w:World) (o:Obj):(w.alloc o).drew.heap[w.heap.size]?=some o:=fL w o
theorem kW.step {d:World} {os:List OpB} {key:K} {m q:Nat} {b:Bool} (h:m<os.length) (i:b=((gY (os.take m)).contains key || ((os[m].table,os[m].key)==key))):kW d os key (.bool b) (.int .i64 ((m+1:Nat):Int)) (d.drewN q):=by
 refine ⟨m+1,h,rfl,?_,q,rfl⟩
 rw [p9 os m h,List.contains_append,i]
 congr 2
 simp only [List.contains_cons,List.contains_nil,Bool.or_false]
 exact dI.2 (by rw [bj,bj];exact eq_comm)
theorem vw {l:List Int} {k:Nat} {os:List OpB} (h:2*k+1<l.length) (h8:os.length<8) :
  ig (l.drop (2*k)) os=ig (l.drop (2*(k+1))) (if (gY os).contains ((sJ l[2*k] l[2*k+1]).table,(sJ l[2*k] l[2*k+1]).key) then os else os++[sJ l[2*k] l[2*k+1]]):=by
 rw [cd (by omega),cd (by omega)]
 rw [ig,aF h8]
 rfl
theorem kU.next {w1 W:World} {D v j k:Nat} {l:List Int} {os:List OpB} {b:Value} (o:j=2*k) (hk:j+1<l.length) (i:gy l=ig (l.drop (2*(k+1))) os) (h1:1≤os.length) (h8:os.length≤8)
  (r:W.heap[D]?=some (.cells #[.int .u64 v,b] 34 (0,0))) (d:OwnS W w1.heap.size 4 b os.length (gd os)) (m:b.ownBlock≠some D) (s:Below w1.heap.size w1 W) (q:Nat) :
  kU w1 D v l (.int .i64 ((j:Int)+2)) (W.drewN q):=by
 subst o
 refine ⟨k+1,os,b,?_,by omega,i,h1,h8,r,d,m,s.drewN q⟩
 rw [show ((2*(k+1):Nat):Int)=((2*k:Nat):Int)+2 by omega]
theorem kU.snoc {w1 w8:World} {D v j k:Nat} {l:List Int} {os:List OpB} {o:OpB} {y i:Option Addr} {r d:Nat} (B:j=2*k) (hk:j+1<l.length) (u:gy l=ig (l.drop (2*(k+1))) (os++[o])) (h8:os.length<8)
  (C:w8.heap[D]?=some (.cells #[.int .u64 v,.slice y os.length r] 34 (0,0))) (m:OwnS w8 w1.heap.size 4 (.slice i (os++[o]).length d) (os++[o]).length (gd (os++[o]))) (q:(Value.slice i (os++[o]).length d).ownBlock≠some D) (s:Below w1.heap.size w1 w8) (x:w1.heap.size≤D) :
  kU w1 D v l (.int .i64 ((j:Int)+2)) (w8.setCell ⟨D,1,none⟩ (.slice i (os.length+1) d)):=by
 subst B
 have e:(os++[o]).length=os.length+1:=by simp
 rw [e] at m q
 refine ⟨k+1,os++[o],.slice i (os.length+1) d,?_,by omega,u,by simp,by rw [e];omega,heap_setCell w8 D 1 _ C,?_,q,s.setCell (p:=⟨D,1,none⟩) x _⟩
 ·rw [show ((2*(k+1):Nat):Int)=((2*k:Nat):Int)+2 by omega]
 ·rw [e]
  exact m.frame (by rw [size_setCell];exact ah _) (fun b s _=>Below.heap_setCell w8 ⟨D,1,none⟩ _ b (fun e=>q (by rw [s,e])))
theorem q9 (v:Nat) (rv:Value) (l:List Int) (w:World) (hr:kg w rv l) (c2:l.length≤gx) (bN:∀ x∈l,-9223372036854775808≤x∧x≤9223372036854775807) :
  Calls Tryz.prog 11 #[.int .u64 v,rv] w fun e w'=>(∃ sv,e = .returned (.agg #[.int .u64 v,sv])∧OwnS w' w.heap.size 4 sv (gy l).length (gd (gy l)))∧Below w.heap.size w w':=by
 obtain ⟨ra,d3,rfl,dT,-⟩:=hr.opened
 have HR:=ae hr
 have c3:=c2
 unfold gx at c3
 obtain ⟨D,a7⟩:∃ D,D=sJ l.length 1:=⟨_,rfl⟩
 have c4:=ae a7
 have ap:=fun W=>vL (l.length:Int) 1 W (by omega) (by omega) (by omega) (by omega)
 rw [←a7] at ap
 have b6:=ae ap
 clear hr a7 ap
 go_enter Tryz.func11,Tryz.ntmps11
 go_wp2_with fail
 refine (b6.out _).mono ?_
 rintro e w1 ⟨rfl,bO⟩
 unfold yV
 have A1:=ae (fK bO (by simp) (fL w (.cells #[.int .u64 0,.slice none 0 0] 34)))
 have e7:Below w.heap.size w w1:=((Below.refl _ w).alloc (ah _) _).trans (bO.mono (by simp))
 have c7:=fI A1.out
 go_wp2
 have h0:kU w1 (w1.heap.size+1) v l (.int .i64 0) ((w1.alloc (.cells #[.int .i64 D.kind,.int .i64 D.table,.string ⟨D.key.toArray⟩,.string ⟨D.val.toArray⟩] 96)).alloc (.cells #[.int .u64 (v:Int),.slice (some ⟨w1.heap.size,0,none⟩) 1 1] 34)):=by
  have hn:=OwnS.new w1 #[.int .i64 D.kind,.int .i64 D.table,.string ⟨D.key.toArray⟩,.string ⟨D.val.toArray⟩] 96 0 0 w1.heap.size 4 1 1 (ah _) (by omega) (by decide) (by simp) (.inl (by omega))
  have hD:=fL (w1.alloc (.cells #[.int .i64 D.kind,.int .i64 D.table,.string ⟨D.key.toArray⟩,.string ⟨D.val.toArray⟩] 96)) (.cells #[.int .u64 (v:Int),.slice (some ⟨w1.heap.size,0,none⟩) 1 1] 34)
  rw [ax] at hD
  refine ⟨0,[D],_,rfl,by omega,by unfold gy;rw [c4.out];rfl,by simp,by simp,hD,hn.below ((Below.refl _ _).alloc (ah _) _),by simp [Value.ownBlock],((Below.refl _ w1).alloc (ah _) _).alloc (by simp) _⟩
 generalize bP:(w1.alloc (.cells #[.int .i64 D.kind,.int .i64 D.table,.string ⟨D.key.toArray⟩,.string ⟨D.val.toArray⟩] 96)).alloc (.cells #[.int .u64 (v:Int),.slice (some ⟨w1.heap.size,0,none⟩) 1 1] 34)=w5
 rw [bP] at h0
 clear bP
 go_loopw [6] (fun i wr=>kU w1 (w1.heap.size+1) v l i wr) (fun i _=>l.length+2-(intOf i).toNat)
 case atStart=>exact h0
 case round =>
  clear h0
  obtain ⟨k,os,sv,rfl,hk,bS,a9,ba,hD,F,O,U⟩:=hrel
  obtain ⟨G,d,rfl⟩:=F.shape
  have a4:=U.size
  have bb:=ae hD
  have bX:=fI hD
  have ag:=ae bS
  have d1:wr.cell? ⟨w1.heap.size+1,1,none⟩=some (.slice G os.length d):=af _ _ 1 _ _ _ hD
  have b0:Below w.heap.size w wr:=e7.trans (U.mono e7.size)
  clear hD bS
  by_cases bc:2*k+1<l.length∧os.length<8
  ·obtain ⟨a5,h8⟩:=bc
   have b8:((2*k:Nat):Int)+1<l.length:=by omega
   have eC:(os.length:Int)<8:=by omega
   obtain ⟨eD,d2,he,-,Z⟩:=(HR.out.below b0).opened
   cases he
   obtain ⟨rb,ro,rfl,c0⟩:=Z (2*k) (by omega)
   obtain ⟨eS,eT,he,c1⟩:=Z (2*k+1) (by omega)
   cases he
   have ak:=ae (vw a5 h8)
   have bi:=bN l[2*k] (cF (by omega))
   have bk:=bN l[2*k+1] (cF (by omega))
   have bl:=fun W=>vL l[2*k] l[2*k+1] W bi.1 bi.2 bk.1 bk.2
   generalize l[2*k]=xa at *
   generalize l[2*k+1]=xb at *
   obtain ⟨⟨B,T,r,C⟩,ho⟩:∃ o,o=sJ xa xb:=⟨_,rfl⟩
   rw [←ho] at bl ak
   have b1:=ae bl
   clear ho bl bi bk Z
   have b2:=fP c0
   obtain ⟨j,hj⟩:∃ j,j=2*k:=⟨_,rfl⟩
   have HJ:=ae hj
   rw [←hj] at c0 c1 b8
   rw [←hj]
   have a6:j+1<l.length:=by omega
   have eV:(j:Int)+1<l.length:=by omega
   clear hj a5
   unfold yV at b1
   go_wp2
   have g0:(0:Int)≤(j:Int):=by omega
   have g4:(j:Int)<l.length:=by omega
   have g1:IntKind.i64.wrap ((j:Int)+1)=(j:Int)+1:=IntWalk.i64_in _ (by omega)
   have g2:(0:Int)≤(j:Int)+1:=by omega
   have g3:((j:Int)+1).toNat=j+1:=by omega
   go_region_held3 (fun w'=>w'.cell? ⟨rb,ro+j,none⟩=some (.int .i64 xa)∧w'.cell? ⟨rb,ro+(j+1),none⟩=some (.int .i64 xb))
    (first | with_reducible exact ⟨e0,e6⟩ | with_reducible exact ⟨k0,k1⟩ | go_keep)
    ((go_at_call 43;refine (b1.out _).mono ?_;rintro e I ⟨rfl,Q⟩;
      have d6:rb<I.heap.size:=(by have h9:=Q.size;simp at h9;omega);
      have e0:I.cell? ⟨rb,ro+j,none⟩=some (.int .i64 xa):=(Q.cell (p:=⟨rb,ro+j,none⟩) (by simp;omega)).trans (by go_keep);
      have e6:I.cell? ⟨rb,ro+(j+1),none⟩=some (.int .i64 xb):=(Q.cell (p:=⟨rb,ro+(j+1),none⟩) (by simp;omega)).trans (by go_keep);
      (first
       | (have hA:Below wr.drew.heap.size wr.drew I:=by with_reducible exact Q)
       | (have V:I.heap[wr.heap.size]?=some (.cells #[.int .i64 0,.int .i64 0,.string ⟨#[]⟩,.string ⟨#[]⟩] 96 (0,0)):=fK Q (by simp) (DU wr _);
          have m0:=af _ _ 0 _ _ _ V;have m1:=af _ _ 1 _ _ _ V;have m2:=af _ _ 2 _ _ _ V;have m3:=af _ _ 3 _ _ _ V;
          have n0:=ao _ _ 0 _ _ V;have n1:=ao _ _ 1 _ _ V;have n2:=ao _ _ 2 _ _ V;have n3:=ao _ _ 3 _ _ V;have e1:=fI V;have c9:=ae V;clear V;
          have k0:=wk (.int .i64 B) (.int .i64 T) (.string ⟨r.toArray⟩) (.string ⟨C.toArray⟩) (fF b2) e0;
          have k1:=wk (.int .i64 B) (.int .i64 T) (.string ⟨r.toArray⟩) (.string ⟨C.toArray⟩) (fF b2) e6;
          unfold uv at k0 k1))))
   ·have R:=fL I (.cells #[.int .i64 B,.int .i64 T,.string ⟨r.toArray⟩,.string ⟨C.toArray⟩] 96)
    have S:Below wr.heap.size wr (I.alloc (.cells #[.int .i64 B,.int .i64 T,.string ⟨r.toArray⟩,.string ⟨C.toArray⟩] 96)):=(((Below.refl wr.heap.size wr).drew).trans hA).alloc hA.size _
    have ht:wr.heap.size≤I.heap.size:=hA.size
    generalize al:I.alloc (.cells #[.int .i64 B,.int .i64 T,.string ⟨r.toArray⟩,.string ⟨C.toArray⟩] 96)=y
    rw [al] at R S
    have X:=ae R
    have Y:=S
    clear al R S e0 e6 hA Q
    have D7:=ae (fK Y bX bb.out)
    have E:Hid (OwnS y w1.heap.size 4 (.slice G os.length d) os.length (gd os)):=ae (F.below Y)
    have dc:=Y.size
    have ci:=fI X.out
    have cl:=fI D7.out
    clear F g1 g2 g3 c0 c1
    go_wp2
    go_loopw [8,9] (fun tw i wi=>kW y os (T,r) tw i wi) (fun _ i _=>os.length-(intOf i).toNat)
    case atStart=>exact ⟨0,aL _,rfl,rfl,0,rfl⟩
    case round =>
     obtain ⟨m,hm,rfl,rfl,q,rfl⟩:=hrel
     have q1:y.cell? ⟨w1.heap.size+1,1,none⟩=some (.slice G os.length d):=af _ _ 1 _ _ _ D7.out
     have u1:y.cell? ⟨I.heap.size,1,none⟩=some (.int .i64 T):=af _ _ 1 _ _ _ X.out
     have u2:y.cell? ⟨I.heap.size,2,none⟩=some (.string ⟨r.toArray⟩):=af _ _ 2 _ _ _ X.out
     by_cases J:m<os.length
     ·obtain ⟨dk,bL,he,-,Z⟩:=E.out.ops.opened
      cases he
      obtain ⟨sb,so,rfl,x0,x1,x2,x3⟩:=Z m J
      clear Z x0 x3
      have cr:(m:Int)<os.length:=by omega
      have cs:=fP x1
      cases s:(gY (os.take m)).contains (T,r) with
      | true =>
       have u:=ae s
       clear s
       go_wp2
       go_quiet (fail)
       go_wp2
       exact ⟨kW.step J (by rw [u.out];rfl),by simp [intOf];omega⟩
      | false =>
       have u:=ae s
       clear s
       cases hq:((os[m].table,os[m].key)==(T,r)) with
       | true =>
        have heq:∀ w,(binOp .eql 94 (.agg #[.int .i64 os[m].table,.string ⟨os[m].key.toArray⟩]) (.agg #[.int .i64 T,.string ⟨r.toArray⟩])).run Tryz.prog w = .ok (.bool true) w:=fun w=>by rw [uF,hq]
        have HQ:=ae hq
        clear hq
        go_wp2
        go_quiet (fail)
        go_wp2
        exact ⟨kW.step J (by rw [u.out,HQ.out];rfl),by simp [intOf];omega⟩
       | false =>
        have heq:∀ w,(binOp .eql 94 (.agg #[.int .i64 os[m].table,.string ⟨os[m].key.toArray⟩]) (.agg #[.int .i64 T,.string ⟨r.toArray⟩])).run Tryz.prog w = .ok (.bool false) w:=fun w=>by rw [uF,hq]
        have HQ:=ae hq
        clear hq
        go_wp2
        go_quiet (fail)
        go_wp2
        exact ⟨kW.step J (by rw [u.out,HQ.out];rfl),by simp [intOf];omega⟩
     ·obtain rfl:m=os.length:=by omega
      have dl:¬(os.length:Int)<os.length:=by omega
      rw [be]
      cases s:(gY os).contains (T,r) with
      | true =>
       have u:=ae s
       clear s
       go_wp2
       refine ⟨kU.next HJ.out a6 (by rw [ag.out,ak.out,aF u.out]) a9 ba D7.out E.out O (U.trans (Y.mono a4)) q,?_⟩
       simp [intOf]
       omega
      | false =>
       have u:=ae s
       clear s
       have u0:y.cell? ⟨I.heap.size,0,none⟩=some (.int .i64 B):=af _ _ 0 _ _ _ X.out
       have u3:y.cell? ⟨I.heap.size,3,none⟩=some (.string ⟨C.toArray⟩):=af _ _ 3 _ _ _ X.out
       have M:OwnS ((y.drewN q).alloc (.cells #[.int .i64 B,.int .i64 T,.string ⟨r.toArray⟩,.string ⟨C.toArray⟩] 96)) w1.heap.size 4 (.slice G os.length d) os.length (gd os):=OwnS.below (w:=y.drewN q) E.out ((Below.refl _ _).alloc (ah _) _)
       have br:=ae M
       have am:=fQ (y.drewN q) (.cells #[.int .i64 B,.int .i64 T,.string ⟨r.toArray⟩,.string ⟨C.toArray⟩] 96) D7.out
       have bs:=ae am
       have a1:=ae (sy (y.drewN q) ⟨B,T,r,C⟩)
       clear M am
       go_wp2_with (at_builtin;refine jC rfl (.tmp 61) (.tmp 63) rfl w1.heap.size (.slice G os.length d) os rfl (by exact br.out) [⟨B,T,r,C⟩] (by exact a1.out) (by simp;omega) (by simp;omega) ?_;intro v8 w8 N bt bv a2;obtain ⟨dn,ct,rfl⟩:=N.shape;have D8:=ae (iJ bt O bs.out);have y1:w8.cell? ⟨w1.heap.size+1,1,none⟩=some (.slice G os.length d):=af _ _ 1 _ _ _ D8.out;have z1:=ao _ _ 1 _ _ D8.out;have cu:=fI D8.out)
       have bw:Hid (gy l=ig (l.drop (2*(k+1))) (os++[⟨B,T,r,C⟩])):=ae (by rw [ag.out,ak.out,aw (by rw [u.out];decide)])
       refine ⟨kU.snoc HJ.out a6 bw.out h8 D8.out N (a2 _ (by simp;omega) O) ((((U.trans (Y.mono a4)).drewN q).alloc (by simp;omega) _).trans bv) (ei _ _),?_⟩
       simp [intOf]
       omega
   ·have e8:Below wr.heap.size wr I:=(((Below.refl wr.heap.size wr).alloc (ah _) _).drew).trans (Q.mono (by simp))
    have R:=xY c9.out (.int .i64 B) (.int .i64 T) (.string ⟨r.toArray⟩) (.string ⟨C.toArray⟩)
    have S:=pn e8 wr.heap.size (.int .i64 B) (.int .i64 T) (.string ⟨r.toArray⟩) (.string ⟨C.toArray⟩) (ah _)
    unfold uv at R S
    generalize al:(((I.setCell ⟨wr.heap.size,0,none⟩ (.int .i64 B)).setCell ⟨wr.heap.size,1,none⟩ (.int .i64 T)).setCell ⟨wr.heap.size,2,none⟩ (.string ⟨r.toArray⟩)).setCell ⟨wr.heap.size,3,none⟩ (.string ⟨C.toArray⟩)=y
    rw [al] at R S
    have X:=ae R
    have Y:=S
    clear al R S e0 e6 Q e8 k0 k1 m0 m1 m2 m3 n0 n1 n2 n3
    have D7:=ae (fK Y bX bb.out)
    have E:Hid (OwnS y w1.heap.size 4 (.slice G os.length d) os.length (gd os)):=ae (F.below Y)
    have dc:=Y.size
    have ci:=fI X.out
    have cl:=fI D7.out
    clear F g1 g2 g3 c0 c1
    go_wp2
    go_loopw [8,9] (fun tw i wi=>kW y os (T,r) tw i wi) (fun _ i _=>os.length-(intOf i).toNat)
    case atStart=>exact ⟨0,aL _,rfl,rfl,0,rfl⟩
    case round =>
     obtain ⟨m,hm,rfl,rfl,q,rfl⟩:=hrel
     have q1:y.cell? ⟨w1.heap.size+1,1,none⟩=some (.slice G os.length d):=af _ _ 1 _ _ _ D7.out
     have u1:y.cell? ⟨wr.heap.size,1,none⟩=some (.int .i64 T):=af _ _ 1 _ _ _ X.out
     have u2:y.cell? ⟨wr.heap.size,2,none⟩=some (.string ⟨r.toArray⟩):=af _ _ 2 _ _ _ X.out
     by_cases J:m<os.length
     ·obtain ⟨dk,bL,he,-,Z⟩:=E.out.ops.opened
      cases he
      obtain ⟨sb,so,rfl,x0,x1,x2,x3⟩:=Z m J
      clear Z x0 x3
      have cr:(m:Int)<os.length:=by omega
      have cs:=fP x1
      cases s:(gY (os.take m)).contains (T,r) with
      | true =>
       have u:=ae s
       clear s
       go_wp2
       go_quiet (fail)
       go_wp2
       exact ⟨kW.step J (by rw [u.out];rfl),by simp [intOf];omega⟩
      | false =>
       have u:=ae s
       clear s
       cases hq:((os[m].table,os[m].key)==(T,r)) with
       | true =>
        have heq:∀ w,(binOp .eql 94 (.agg #[.int .i64 os[m].table,.string ⟨os[m].key.toArray⟩]) (.agg #[.int .i64 T,.string ⟨r.toArray⟩])).run Tryz.prog w = .ok (.bool true) w:=fun w=>by rw [uF,hq]
        have HQ:=ae hq
        clear hq
        go_wp2
        go_quiet (fail)
        go_wp2
        exact ⟨kW.step J (by rw [u.out,HQ.out];rfl),by simp [intOf];omega⟩
       | false =>
        have heq:∀ w,(binOp .eql 94 (.agg #[.int .i64 os[m].table,.string ⟨os[m].key.toArray⟩]) (.agg #[.int .i64 T,.string ⟨r.toArray⟩])).run Tryz.prog w = .ok (.bool false) w:=fun w=>by rw [uF,hq]
        have HQ:=ae hq
        clear hq
        go_wp2
        go_quiet (fail)
        go_wp2
        exact ⟨kW.step J (by rw [u.out,HQ.out];rfl),by simp [intOf];omega⟩
     ·obtain rfl:m=os.length:=by omega
      have dl:¬(os.length:Int)<os.length:=by omega
      rw [be]
      cases s:(gY os).contains (T,r) with
      | true =>
       have u:=ae s
       clear s
       go_wp2
       refine ⟨kU.next HJ.out a6 (by rw [ag.out,ak.out,aF u.out]) a9 ba D7.out E.out O (U.trans (Y.mono a4)) q,?_⟩
       simp [intOf]
       omega
      | false =>
       have u:=ae s
       clear s
       have u0:y.cell? ⟨wr.heap.size,0,none⟩=some (.int .i64 B):=af _ _ 0 _ _ _ X.out
       have u3:y.cell? ⟨wr.heap.size,3,none⟩=some (.string ⟨C.toArray⟩):=af _ _ 3 _ _ _ X.out
       have M:OwnS ((y.drewN q).alloc (.cells #[.int .i64 B,.int .i64 T,.string ⟨r.toArray⟩,.string ⟨C.toArray⟩] 96)) w1.heap.size 4 (.slice G os.length d) os.length (gd os):=OwnS.below (w:=y.drewN q) E.out ((Below.refl _ _).alloc (ah _) _)
       have br:=ae M
       have am:=fQ (y.drewN q) (.cells #[.int .i64 B,.int .i64 T,.string ⟨r.toArray⟩,.string ⟨C.toArray⟩] 96) D7.out
       have bs:=ae am
       have a1:=ae (sy (y.drewN q) ⟨B,T,r,C⟩)
       clear M am
       go_wp2_with (at_builtin;refine jC rfl (.tmp 61) (.tmp 63) rfl w1.heap.size (.slice G os.length d) os rfl (by exact br.out) [⟨B,T,r,C⟩] (by exact a1.out) (by simp;omega) (by simp;omega) ?_;intro v8 w8 N bt bv a2;obtain ⟨dn,ct,rfl⟩:=N.shape;have D8:=ae (iJ bt O bs.out);have y1:w8.cell? ⟨w1.heap.size+1,1,none⟩=some (.slice G os.length d):=af _ _ 1 _ _ _ D8.out;have z1:=ao _ _ 1 _ _ D8.out;have cu:=fI D8.out)
       have bw:Hid (gy l=ig (l.drop (2*(k+1))) (os++[⟨B,T,r,C⟩])):=ae (by rw [ag.out,ak.out,aw (by rw [u.out];decide)])
       refine ⟨kU.snoc HJ.out a6 bw.out h8 D8.out N (a2 _ (by simp;omega) O) ((((U.trans (Y.mono a4)).drewN q).alloc (by simp;omega) _).trans bv) (ei _ _),?_⟩
       simp [intOf]
       omega
  ·have bx:gy l=os:=by
    rw [ag.out]
    by_cases h2:2*k+1<l.length
    ·exact vu _ _ (fun h=>bc ⟨h2,h⟩)
    ·exact um _ _ (by rw [a8];omega)
   have bM:(¬((2*k:Nat):Int)+1<l.length)∨(((2*k:Nat):Int)+1<l.length∧¬(os.length:Int)<8):=by omega
   have cv:=ae bx
   have AR:=ae (fK U c7 A1.out)
   have d0:wr.cell? ⟨w1.heap.size+1,0,none⟩=some (.int .u64 v):=af _ _ 0 _ _ _ bb.out
   have p0:wr.cell? ⟨w.heap.size,0,none⟩=some (.int .u64 0):=af _ _ 0 _ _ _ AR.out
   have p1:wr.cell? ⟨w.heap.size,1,none⟩=some (.slice none 0 0):=af _ _ 1 _ _ _ AR.out
   have z0:=ao _ _ 0 _ _ AR.out
   have z1:=ao _ _ 1 _ _ AR.out
   have em:=fI AR.out
   have x0:((wr.setCell ⟨w.heap.size,0,none⟩ (.int .u64 v)).setCell ⟨w.heap.size,1,none⟩ (.slice G os.length d)).cell? ⟨w.heap.size,0,none⟩=some (.int .u64 v):=af _ _ 0 _ _ _ (heap_setCell _ _ 1 _ (heap_setCell _ _ 0 _ AR.out))
   have x1:((wr.setCell ⟨w.heap.size,0,none⟩ (.int .u64 v)).setCell ⟨w.heap.size,1,none⟩ (.slice G os.length d)).cell? ⟨w.heap.size,1,none⟩=some (.slice G os.length d):=af _ _ 1 _ _ _ (heap_setCell _ _ 1 _ (heap_setCell _ _ 0 _ AR.out))
   have b3:wr.grownBy ((wr.setCell ⟨w.heap.size,0,none⟩ (.int .u64 v)).setCell ⟨w.heap.size,1,none⟩ (.slice G os.length d)) (some w.heap.size):=gC (grownBy_set (Below.refl _ wr) 0 _) 1 _
   have dv:=(F.frame b3.size (fun b hb a5=>b3.block b a5 (fun e=>by cases e;have:=F.fU _ hb;omega))).mono (show w.heap.size≤w1.heap.size by omega)
   have hB:Below w.heap.size w ((wr.setCell ⟨w.heap.size,0,none⟩ (.int .u64 v)).setCell ⟨w.heap.size,1,none⟩ (.slice G os.length d)):=(b0.setCell (p:=⟨w.heap.size,0,none⟩) (ah _) _).setCell (p:=⟨w.heap.size,1,none⟩) (ah _) _
   clear bx bc F
   rcases bM with ht | ⟨ht,e2⟩
   all_goals
    go_wp2
    refine aK (v := .agg #[.int .u64 v,.slice G os.length d]) (by simp [results,Tryz.results11,go_sem,x0,x1]) rfl ⟨⟨_,rfl,?_⟩,hB⟩
    rw [cv.out]
    exact dv
end Go.Proofs.YtkkfmkhbdoeglaaGreatDoor
