/- A part of what is proved here: lemmas and contracts of single functions. No condition but those that each names. -/
import Derived.Test.YtkkfmkhbdoeglaaGreatDoorG00
import Derived.Test.YtkkfmkhbdoeglaaGreatDoorG09
import Derived.Test.YtkkfmkhbdoeglaaGreatDoorG12
import Derived.Test.YtkkfmkhbdoeglaaGreatDoorG45
set_option maxHeartbeats 1000000
set_option maxRecDepth 100000
namespace Go.Proofs.YtkkfmkhbdoeglaaGreatDoor
open Go.RowKit
def lT (w:World) (v:Value) (l:List Int):Prop:=fH w v 1 l.length (l.map fun x => .int .i64 x)
theorem lT.opened {w:World} {v:Value} {l:List Int} (h:lT w v l) :
  ∃ a cap,v = .slice a l.length cap∧l.length≤cap∧∀ i (h:i<l.length),∃ b off,a=some ⟨b,off,none⟩∧w.cell? ⟨b,off+i,none⟩=some (.int .i64 l[i]):=by
 obtain ⟨_,a,cap,rfl,hc,j⟩:=h
 refine ⟨a,cap,rfl,hc,fun i m => ?_⟩
 obtain ⟨b,off,rfl,d⟩:=j i (by rw [aG];exact m)
 exact ⟨b,off,rfl,by rw [d];simp⟩
theorem lT.below {w w':World} {v:Value} {l:List Int} (h:lT w v l) (b:Below w.heap.size w w'):lT w' v l:=fH.below h b
def gL:List Int→List OpB→List OpB
 | a::b::r,os=>if os.length<8 then gL r (if (gK os).contains ((rp a b).table,(rp a b).key) then os else os++[rp a b]) else os
 | _,os=>os
def fW (l:List Int):List OpB:=gL l [rp l.length 1]
theorem tH:∀ (l:List Int) (os:List OpB),¬os.length<8→gL l os=os
 | [],os,_=>rfl
 | [_],os,_=>rfl
 | a::b::r,os,h=>by unfold gL;rw [au h]
theorem sM (l:List Int) (os:List OpB) (h:l.length<2):gL l os=os:=by
 match l,h with
 | [],_=>rfl
 | [_],_=>rfl
theorem pn:∀ (os:List OpB) (o:OpB) (i:Nat) (b:List K),fJ i b os=none→gX o (b++gK os)=0→fJ i b (os++[o])=none
 | [],o,i,b,_,h=>by
  simp only [gK,di,cZ] at h
  simp [fJ,h]
 | x::os,o,i,b,h1,h2=>by
  unfold fJ at h1
  split at h1
  ·rename_i d
   rw [aV]
   unfold fJ
   rw [aB d]
   refine pn os o (i+1) _ h1 ?_
   simpa [gK] using h2
  ·cases h1
theorem lj:∀ (n:Nat) (l:List Int) (os:List OpB),l.length≤n→fJ 0 [] os=none→1≤os.length→os.length≤8→fJ 0 [] (gL l os)=none∧1≤(gL l os).length∧(gL l os).length≤8
 | n,[],os,_,h,h1,h8=>⟨h,h1,h8⟩
 | n,[_],os,_,h,h1,h8=>⟨h,h1,h8⟩
 | 0,a::b::r,os,d,h,h1,h8=>by simp at d
 | n+1,a::b::r,os,d,h,h1,h8=>by
  unfold gL
  by_cases h9:os.length<8
  ·rw [aB h9]
   have i:r.length≤n:=by simp at d;omega
   cases hc:(gK os).contains ((rp a b).table,(rp a b).key) with
   | true=>exact lj n r os i h h1 h8
   | false =>
    refine lj n r _ i (pn os _ 0 [] h (tC a b _ (by simpa using hc))) ?_ ?_
    ·simp
    ·simp;omega
  ·rw [au h9]
   exact ⟨h,h1,h8⟩
theorem jv (l:List Int) (v:Nat) (b:isVersionB v=true):gE v (fW l)=none:=by
 have d:fJ 0 [] [rp l.length 1]=none:=by
  unfold fJ
  rw [aB (tC _ _ _ rfl)]
  rfl
 obtain ⟨h1,h2,h3⟩:=lj l.length l [rp l.length 1] (af _) d (by simp) (by simp)
 unfold gE fW
 rw [au (by rw [b];decide),au (by omega)]
 exact h1
theorem nG (l:List Int):1≤(fW l).length∧(fW l).length≤8:=by
 have b:fJ 0 [] [rp l.length 1]=none:=by
  unfold fJ
  rw [aB (tC _ _ _ rfl)]
  rfl
 exact (lj l.length l [rp l.length 1] (af _) b (by simp) (by simp)).2
def kj (w1:World) (D v:Nat) (l:List Int) (i:Value) (wr:World):Prop :=
 ∃ (k:Nat) (os:List OpB) (b:Value),i = .int .i64 ((2*k:Nat):Int)∧2*k≤l.length+1∧fW l=gL (l.drop (2*k)) os∧1≤os.length∧os.length≤8∧
  wr.heap[D]?=some (.cells #[.int .u64 v,b] 34 (0,0))∧OwnS wr w1.heap.size 4 b os.length (fM os)∧b.ownBlock≠some D∧Below w1.heap.size w1 wr
def kg (b:World) (os:List OpB) (key:K) (t i:Value) (wr:World):Prop :=
 ∃ m:Nat,m≤os.length∧i = .int .i64 (m:Int)∧t = .bool ((gK (os.take m)).contains key)∧∃ q,wr=b.drewN q
theorem C7 (w:World) (o:Obj):(w.alloc o).drew.heap[w.heap.size]?=some o:=fA w o
theorem kg.step {d:World} {os:List OpB} {key:K} {m q:Nat} {b:Bool} (h:m<os.length) (i:b=((gK (os.take m)).contains key || ((os[m].table,os[m].key)==key))):kg d os key (.bool b) (.int .i64 ((m+1:Nat):Int)) (d.drewN q):=by
 refine ⟨m+1,h,rfl,?_,q,rfl⟩
 rw [pc os m h,List.contains_append,i]
 congr 2
 simp only [List.contains_cons,List.contains_nil,Bool.or_false]
 exact dD.2 (by rw [bf,bf];exact eq_comm)
theorem ug {l:List Int} {k:Nat} {os:List OpB} (h:2*k+1<l.length) (h8:os.length<8) :
  gL (l.drop (2*k)) os=gL (l.drop (2*(k+1))) (if (gK os).contains ((rp l[2*k] l[2*k+1]).table,(rp l[2*k] l[2*k+1]).key) then os else os++[rp l[2*k] l[2*k+1]]):=by
 rw [cn (by omega),cn (by omega)]
 rw [gL,aB h8]
 rfl
theorem kj.next {w1 W:World} {D v j k:Nat} {l:List Int} {os:List OpB} {b:Value} (o:j=2*k) (hk:j+1<l.length) (i:fW l=gL (l.drop (2*(k+1))) os) (h1:1≤os.length) (h8:os.length≤8)
  (r:W.heap[D]?=some (.cells #[.int .u64 v,b] 34 (0,0))) (d:OwnS W w1.heap.size 4 b os.length (fM os)) (m:b.ownBlock≠some D) (s:Below w1.heap.size w1 W) (q:Nat) :
  kj w1 D v l (.int .i64 ((j:Int)+2)) (W.drewN q):=by
 subst o
 refine ⟨k+1,os,b,?_,by omega,i,h1,h8,r,d,m,s.drewN q⟩
 rw [show ((2*(k+1):Nat):Int)=((2*k:Nat):Int)+2 by omega]
theorem kj.snoc {w1 w8:World} {D v j k:Nat} {l:List Int} {os:List OpB} {o:OpB} {y i:Option Addr} {r d:Nat} (B:j=2*k) (hk:j+1<l.length) (u:fW l=gL (l.drop (2*(k+1))) (os++[o])) (h8:os.length<8)
  (C:w8.heap[D]?=some (.cells #[.int .u64 v,.slice y os.length r] 34 (0,0))) (m:OwnS w8 w1.heap.size 4 (.slice i (os++[o]).length d) (os++[o]).length (fM (os++[o]))) (q:(Value.slice i (os++[o]).length d).ownBlock≠some D) (s:Below w1.heap.size w1 w8) (x:w1.heap.size≤D) :
  kj w1 D v l (.int .i64 ((j:Int)+2)) (w8.setCell ⟨D,1,none⟩ (.slice i (os.length+1) d)):=by
 subst B
 have e:(os++[o]).length=os.length+1:=by simp
 rw [e] at m q
 refine ⟨k+1,os++[o],.slice i (os.length+1) d,?_,by omega,u,by simp,by rw [e];omega,heap_setCell w8 D 1 _ C,?_,q,s.setCell (p:=⟨D,1,none⟩) x _⟩
 ·rw [show ((2*(k+1):Nat):Int)=((2*k:Nat):Int)+2 by omega]
 ·rw [e]
  exact m.frame (by rw [size_setCell];exact af _) (fun b s _=>Below.heap_setCell w8 ⟨D,1,none⟩ _ b (fun e=>q (by rw [s,e])))
theorem nu (v:Nat) (rv:Value) (l:List Int) (w:World) (hr:lT w rv l) (c3:l.length≤fX) (bN:∀ x∈l,-9223372036854775808≤x∧x≤9223372036854775807) :
  Calls Tryz.prog 11 #[.int .u64 v,rv] w fun e w'=>(∃ sv,e = .returned (.agg #[.int .u64 v,sv])∧OwnS w' w.heap.size 4 sv (fW l).length (fM (fW l)))∧Below w.heap.size w w':=by
 obtain ⟨ra,d5,rfl,d3,-⟩:=hr.opened
 have HR:=ab hr
 have c4:=c3
 unfold fX at c4
 obtain ⟨D,a9⟩:∃ D,D=rp l.length 1:=⟨_,rfl⟩
 have c5:=ab a9
 have av:=fun W=>uJ (l.length:Int) 1 W (by omega) (by omega) (by omega) (by omega)
 rw [←a9] at av
 have b6:=ab av
 clear hr a9 av
 go_enter Tryz.func11,Tryz.ntmps11
 go_wp2_with fail
 refine (b6.out _).mono ?_
 rintro e w1 ⟨rfl,bO⟩
 unfold xg
 have A1:=ab (fy bO (by simp) (fA w (.cells #[.int .u64 0,.slice none 0 0] 34)))
 have fb:Below w.heap.size w w1:=((Below.refl _ w).alloc (af _) _).trans (bO.mono (by simp))
 have c8:=fw A1.out
 go_wp2
 have h0:kj w1 (w1.heap.size+1) v l (.int .i64 0) ((w1.alloc (.cells #[.int .i64 D.kind,.int .i64 D.table,.string ⟨D.key.toArray⟩,.string ⟨D.val.toArray⟩] 96)).alloc (.cells #[.int .u64 (v:Int),.slice (some ⟨w1.heap.size,0,none⟩) 1 1] 34)):=by
  have hn:=OwnS.new w1 #[.int .i64 D.kind,.int .i64 D.table,.string ⟨D.key.toArray⟩,.string ⟨D.val.toArray⟩] 96 0 0 w1.heap.size 4 1 1 (af _) (by omega) (by decide) (by simp) (.inl (by omega))
  have hD:=fA (w1.alloc (.cells #[.int .i64 D.kind,.int .i64 D.table,.string ⟨D.key.toArray⟩,.string ⟨D.val.toArray⟩] 96)) (.cells #[.int .u64 (v:Int),.slice (some ⟨w1.heap.size,0,none⟩) 1 1] 34)
  rw [ax] at hD
  refine ⟨0,[D],_,rfl,by omega,by unfold fW;rw [c5.out];rfl,by simp,by simp,hD,hn.below ((Below.refl _ _).alloc (af _) _),by simp [Value.ownBlock],((Below.refl _ w1).alloc (af _) _).alloc (by simp) _⟩
 generalize bP:(w1.alloc (.cells #[.int .i64 D.kind,.int .i64 D.table,.string ⟨D.key.toArray⟩,.string ⟨D.val.toArray⟩] 96)).alloc (.cells #[.int .u64 (v:Int),.slice (some ⟨w1.heap.size,0,none⟩) 1 1] 34)=w5
 rw [bP] at h0
 clear bP
 go_loopw [6] (fun i wr=>kj w1 (w1.heap.size+1) v l i wr) (fun i _=>l.length+2-(intOf i).toNat)
 case atStart=>exact h0
 case round =>
  clear h0
  obtain ⟨k,os,sv,rfl,hk,bS,ba,bb,hD,F,O,U⟩:=hrel
  obtain ⟨G,d,rfl⟩:=F.shape
  have a5:=U.size
  have bc:=ab hD
  have bX:=fw hD
  have ak:=ab bS
  have d1:wr.cell? ⟨w1.heap.size+1,1,none⟩=some (.slice G os.length d):=ae _ _ 1 _ _ _ hD
  have b0:Below w.heap.size w wr:=fb.trans (U.mono fb.size)
  clear hD bS
  by_cases bd:2*k+1<l.length∧os.length<8
  ·obtain ⟨a6,h8⟩:=bd
   have b8:((2*k:Nat):Int)+1<l.length:=by omega
   have eT:(os.length:Int)<8:=by omega
   obtain ⟨eV,d4,he,-,Z⟩:=(HR.out.below b0).opened
   cases he
   obtain ⟨rb,ro,rfl,c0⟩:=Z (2*k) (by omega)
   obtain ⟨e1,e2,he,c1⟩:=Z (2*k+1) (by omega)
   cases he
   have al:=ab (ug a6 h8)
   have bi:=bN l[2*k] (cL (by omega))
   have bk:=bN l[2*k+1] (cL (by omega))
   have bl:=fun W=>uJ l[2*k] l[2*k+1] W bi.1 bi.2 bk.1 bk.2
   generalize l[2*k]=xa at *
   generalize l[2*k+1]=xb at *
   obtain ⟨⟨B,T,r,C⟩,ho⟩:∃ o,o=rp xa xb:=⟨_,rfl⟩
   rw [←ho] at bl al
   have b1:=ab bl
   clear ho bl bi bk Z
   have b2:=fE c0
   obtain ⟨j,hj⟩:∃ j,j=2*k:=⟨_,rfl⟩
   have HJ:=ab hj
   rw [←hj] at c0 c1 b8
   rw [←hj]
   have a7:j+1<l.length:=by omega
   have e3:(j:Int)+1<l.length:=by omega
   clear hj a6
   unfold xg at b1
   go_wp2
   have g0:(0:Int)≤(j:Int):=by omega
   have g4:(j:Int)<l.length:=by omega
   have g1:IntKind.i64.wrap ((j:Int)+1)=(j:Int)+1:=IntWalk.i64_in _ (by omega)
   have g2:(0:Int)≤(j:Int)+1:=by omega
   have g3:((j:Int)+1).toNat=j+1:=by omega
   go_region_held3 (fun w'=>w'.cell? ⟨rb,ro+j,none⟩=some (.int .i64 xa)∧w'.cell? ⟨rb,ro+(j+1),none⟩=some (.int .i64 xb))
    (first | with_reducible exact ⟨e0,e9⟩ | with_reducible exact ⟨k0,k1⟩ | go_keep)
    ((go_at_call 43;refine (b1.out _).mono ?_;rintro e I ⟨rfl,Q⟩;
      have d8:rb<I.heap.size:=(by have h9:=Q.size;simp at h9;omega);
      have e0:I.cell? ⟨rb,ro+j,none⟩=some (.int .i64 xa):=(Q.cell (p:=⟨rb,ro+j,none⟩) (by simp;omega)).trans (by go_keep);
      have e9:I.cell? ⟨rb,ro+(j+1),none⟩=some (.int .i64 xb):=(Q.cell (p:=⟨rb,ro+(j+1),none⟩) (by simp;omega)).trans (by go_keep);
      (first
       | (have hA:Below wr.drew.heap.size wr.drew I:=by with_reducible exact Q)
       | (have V:I.heap[wr.heap.size]?=some (.cells #[.int .i64 0,.int .i64 0,.string ⟨#[]⟩,.string ⟨#[]⟩] 96 (0,0)):=fy Q (by simp) (C7 wr _);
          have m0:=ae _ _ 0 _ _ _ V;have m1:=ae _ _ 1 _ _ _ V;have m2:=ae _ _ 2 _ _ _ V;have m3:=ae _ _ 3 _ _ _ V;
          have n0:=aj _ _ 0 _ _ V;have n1:=aj _ _ 1 _ _ V;have n2:=aj _ _ 2 _ _ V;have n3:=aj _ _ 3 _ _ V;have e4:=fw V;have da:=ab V;clear V;
          have k0:=tQ (.int .i64 B) (.int .i64 T) (.string ⟨r.toArray⟩) (.string ⟨C.toArray⟩) (ft b2) e0;
          have k1:=tQ (.int .i64 B) (.int .i64 T) (.string ⟨r.toArray⟩) (.string ⟨C.toArray⟩) (ft b2) e9;
          unfold sI at k0 k1))))
   ·have R:=fA I (.cells #[.int .i64 B,.int .i64 T,.string ⟨r.toArray⟩,.string ⟨C.toArray⟩] 96)
    have S:Below wr.heap.size wr (I.alloc (.cells #[.int .i64 B,.int .i64 T,.string ⟨r.toArray⟩,.string ⟨C.toArray⟩] 96)):=(((Below.refl wr.heap.size wr).drew).trans hA).alloc hA.size _
    have ht:wr.heap.size≤I.heap.size:=hA.size
    generalize am:I.alloc (.cells #[.int .i64 B,.int .i64 T,.string ⟨r.toArray⟩,.string ⟨C.toArray⟩] 96)=y
    rw [am] at R S
    have X:=ab R
    have Y:=S
    clear am R S e0 e9 hA Q
    have D7:=ab (fy Y bX bc.out)
    have E:Hid (OwnS y w1.heap.size 4 (.slice G os.length d) os.length (fM os)):=ab (F.below Y)
    have dk:=Y.size
    have cl:=fw X.out
    have co:=fw D7.out
    clear F g1 g2 g3 c0 c1
    go_wp2
    go_loopw [8,9] (fun tw i wi=>kg y os (T,r) tw i wi) (fun _ i _=>os.length-(intOf i).toNat)
    case atStart=>exact ⟨0,aK _,rfl,rfl,0,rfl⟩
    case round =>
     obtain ⟨m,hm,rfl,rfl,q,rfl⟩:=hrel
     have q1:y.cell? ⟨w1.heap.size+1,1,none⟩=some (.slice G os.length d):=ae _ _ 1 _ _ _ D7.out
     have u1:y.cell? ⟨I.heap.size,1,none⟩=some (.int .i64 T):=ae _ _ 1 _ _ _ X.out
     have u2:y.cell? ⟨I.heap.size,2,none⟩=some (.string ⟨r.toArray⟩):=ae _ _ 2 _ _ _ X.out
     by_cases J:m<os.length
     ·obtain ⟨dl,bL,he,-,Z⟩:=E.out.ops.opened
      cases he
      obtain ⟨sb,so,rfl,x0,x1,x2,x3⟩:=Z m J
      clear Z x0 x3
      have cs:(m:Int)<os.length:=by omega
      have ct:=fE x1
      cases s:(gK (os.take m)).contains (T,r) with
      | true =>
       have u:=ab s
       clear s
       go_wp2
       go_quiet (fail)
       go_wp2
       exact ⟨kg.step J (by rw [u.out];rfl),by simp [intOf];omega⟩
      | false =>
       have u:=ab s
       clear s
       cases hq:((os[m].table,os[m].key)==(T,r)) with
       | true =>
        have heq:∀ w,(binOp .eql 94 (.agg #[.int .i64 os[m].table,.string ⟨os[m].key.toArray⟩]) (.agg #[.int .i64 T,.string ⟨r.toArray⟩])).run Tryz.prog w = .ok (.bool true) w:=fun w=>by rw [sU,hq]
        have HQ:=ab hq
        clear hq
        go_wp2
        go_quiet (fail)
        go_wp2
        exact ⟨kg.step J (by rw [u.out,HQ.out];rfl),by simp [intOf];omega⟩
       | false =>
        have heq:∀ w,(binOp .eql 94 (.agg #[.int .i64 os[m].table,.string ⟨os[m].key.toArray⟩]) (.agg #[.int .i64 T,.string ⟨r.toArray⟩])).run Tryz.prog w = .ok (.bool false) w:=fun w=>by rw [sU,hq]
        have HQ:=ab hq
        clear hq
        go_wp2
        go_quiet (fail)
        go_wp2
        exact ⟨kg.step J (by rw [u.out,HQ.out];rfl),by simp [intOf];omega⟩
     ·obtain rfl:m=os.length:=by omega
      have dn:¬(os.length:Int)<os.length:=by omega
      rw [bp]
      cases s:(gK os).contains (T,r) with
      | true =>
       have u:=ab s
       clear s
       go_wp2
       refine ⟨kj.next HJ.out a7 (by rw [ak.out,al.out,aB u.out]) ba bb D7.out E.out O (U.trans (Y.mono a5)) q,?_⟩
       simp [intOf]
       omega
      | false =>
       have u:=ab s
       clear s
       have u0:y.cell? ⟨I.heap.size,0,none⟩=some (.int .i64 B):=ae _ _ 0 _ _ _ X.out
       have u3:y.cell? ⟨I.heap.size,3,none⟩=some (.string ⟨C.toArray⟩):=ae _ _ 3 _ _ _ X.out
       have M:OwnS ((y.drewN q).alloc (.cells #[.int .i64 B,.int .i64 T,.string ⟨r.toArray⟩,.string ⟨C.toArray⟩] 96)) w1.heap.size 4 (.slice G os.length d) os.length (fM os):=OwnS.below (w:=y.drewN q) E.out ((Below.refl _ _).alloc (af _) _)
       have br:=ab M
       have ap:=fG (y.drewN q) (.cells #[.int .i64 B,.int .i64 T,.string ⟨r.toArray⟩,.string ⟨C.toArray⟩] 96) D7.out
       have bs:=ab ap
       have a2:=ab (uR (y.drewN q) ⟨B,T,r,C⟩)
       clear M ap
       go_wp2_with (at_builtin;refine ji rfl (.tmp 61) (.tmp 63) rfl w1.heap.size (.slice G os.length d) os rfl (by exact br.out) [⟨B,T,r,C⟩] (by exact a2.out) (by simp;omega) (by simp;omega) ?_;intro v8 w8 N bt bv a3;obtain ⟨dp,cu,rfl⟩:=N.shape;have D8:=ab (ir bt O bs.out);have y1:w8.cell? ⟨w1.heap.size+1,1,none⟩=some (.slice G os.length d):=ae _ _ 1 _ _ _ D8.out;have z1:=aj _ _ 1 _ _ D8.out;have cv:=fw D8.out)
       have bw:Hid (fW l=gL (l.drop (2*(k+1))) (os++[⟨B,T,r,C⟩])):=ab (by rw [ak.out,al.out,au (by rw [u.out];decide)])
       refine ⟨kj.snoc HJ.out a7 bw.out h8 D8.out N (a3 _ (by simp;omega) O) ((((U.trans (Y.mono a5)).drewN q).alloc (by simp;omega) _).trans bv) (dW _ _),?_⟩
       simp [intOf]
       omega
   ·have fd:Below wr.heap.size wr I:=(((Below.refl wr.heap.size wr).alloc (af _) _).drew).trans (Q.mono (by simp))
    have R:=wh da.out (.int .i64 B) (.int .i64 T) (.string ⟨r.toArray⟩) (.string ⟨C.toArray⟩)
    have S:=og fd wr.heap.size (.int .i64 B) (.int .i64 T) (.string ⟨r.toArray⟩) (.string ⟨C.toArray⟩) (af _)
    unfold sI at R S
    generalize am:(((I.setCell ⟨wr.heap.size,0,none⟩ (.int .i64 B)).setCell ⟨wr.heap.size,1,none⟩ (.int .i64 T)).setCell ⟨wr.heap.size,2,none⟩ (.string ⟨r.toArray⟩)).setCell ⟨wr.heap.size,3,none⟩ (.string ⟨C.toArray⟩)=y
    rw [am] at R S
    have X:=ab R
    have Y:=S
    clear am R S e0 e9 Q fd k0 k1 m0 m1 m2 m3 n0 n1 n2 n3
    have D7:=ab (fy Y bX bc.out)
    have E:Hid (OwnS y w1.heap.size 4 (.slice G os.length d) os.length (fM os)):=ab (F.below Y)
    have dk:=Y.size
    have cl:=fw X.out
    have co:=fw D7.out
    clear F g1 g2 g3 c0 c1
    go_wp2
    go_loopw [8,9] (fun tw i wi=>kg y os (T,r) tw i wi) (fun _ i _=>os.length-(intOf i).toNat)
    case atStart=>exact ⟨0,aK _,rfl,rfl,0,rfl⟩
    case round =>
     obtain ⟨m,hm,rfl,rfl,q,rfl⟩:=hrel
     have q1:y.cell? ⟨w1.heap.size+1,1,none⟩=some (.slice G os.length d):=ae _ _ 1 _ _ _ D7.out
     have u1:y.cell? ⟨wr.heap.size,1,none⟩=some (.int .i64 T):=ae _ _ 1 _ _ _ X.out
     have u2:y.cell? ⟨wr.heap.size,2,none⟩=some (.string ⟨r.toArray⟩):=ae _ _ 2 _ _ _ X.out
     by_cases J:m<os.length
     ·obtain ⟨dl,bL,he,-,Z⟩:=E.out.ops.opened
      cases he
      obtain ⟨sb,so,rfl,x0,x1,x2,x3⟩:=Z m J
      clear Z x0 x3
      have cs:(m:Int)<os.length:=by omega
      have ct:=fE x1
      cases s:(gK (os.take m)).contains (T,r) with
      | true =>
       have u:=ab s
       clear s
       go_wp2
       go_quiet (fail)
       go_wp2
       exact ⟨kg.step J (by rw [u.out];rfl),by simp [intOf];omega⟩
      | false =>
       have u:=ab s
       clear s
       cases hq:((os[m].table,os[m].key)==(T,r)) with
       | true =>
        have heq:∀ w,(binOp .eql 94 (.agg #[.int .i64 os[m].table,.string ⟨os[m].key.toArray⟩]) (.agg #[.int .i64 T,.string ⟨r.toArray⟩])).run Tryz.prog w = .ok (.bool true) w:=fun w=>by rw [sU,hq]
        have HQ:=ab hq
        clear hq
        go_wp2
        go_quiet (fail)
        go_wp2
        exact ⟨kg.step J (by rw [u.out,HQ.out];rfl),by simp [intOf];omega⟩
       | false =>
        have heq:∀ w,(binOp .eql 94 (.agg #[.int .i64 os[m].table,.string ⟨os[m].key.toArray⟩]) (.agg #[.int .i64 T,.string ⟨r.toArray⟩])).run Tryz.prog w = .ok (.bool false) w:=fun w=>by rw [sU,hq]
        have HQ:=ab hq
        clear hq
        go_wp2
        go_quiet (fail)
        go_wp2
        exact ⟨kg.step J (by rw [u.out,HQ.out];rfl),by simp [intOf];omega⟩
     ·obtain rfl:m=os.length:=by omega
      have dn:¬(os.length:Int)<os.length:=by omega
      rw [bp]
      cases s:(gK os).contains (T,r) with
      | true =>
       have u:=ab s
       clear s
       go_wp2
       refine ⟨kj.next HJ.out a7 (by rw [ak.out,al.out,aB u.out]) ba bb D7.out E.out O (U.trans (Y.mono a5)) q,?_⟩
       simp [intOf]
       omega
      | false =>
       have u:=ab s
       clear s
       have u0:y.cell? ⟨wr.heap.size,0,none⟩=some (.int .i64 B):=ae _ _ 0 _ _ _ X.out
       have u3:y.cell? ⟨wr.heap.size,3,none⟩=some (.string ⟨C.toArray⟩):=ae _ _ 3 _ _ _ X.out
       have M:OwnS ((y.drewN q).alloc (.cells #[.int .i64 B,.int .i64 T,.string ⟨r.toArray⟩,.string ⟨C.toArray⟩] 96)) w1.heap.size 4 (.slice G os.length d) os.length (fM os):=OwnS.below (w:=y.drewN q) E.out ((Below.refl _ _).alloc (af _) _)
       have br:=ab M
       have ap:=fG (y.drewN q) (.cells #[.int .i64 B,.int .i64 T,.string ⟨r.toArray⟩,.string ⟨C.toArray⟩] 96) D7.out
       have bs:=ab ap
       have a2:=ab (uR (y.drewN q) ⟨B,T,r,C⟩)
       clear M ap
       go_wp2_with (at_builtin;refine ji rfl (.tmp 61) (.tmp 63) rfl w1.heap.size (.slice G os.length d) os rfl (by exact br.out) [⟨B,T,r,C⟩] (by exact a2.out) (by simp;omega) (by simp;omega) ?_;intro v8 w8 N bt bv a3;obtain ⟨dp,cu,rfl⟩:=N.shape;have D8:=ab (ir bt O bs.out);have y1:w8.cell? ⟨w1.heap.size+1,1,none⟩=some (.slice G os.length d):=ae _ _ 1 _ _ _ D8.out;have z1:=aj _ _ 1 _ _ D8.out;have cv:=fw D8.out)
       have bw:Hid (fW l=gL (l.drop (2*(k+1))) (os++[⟨B,T,r,C⟩])):=ab (by rw [ak.out,al.out,au (by rw [u.out];decide)])
       refine ⟨kj.snoc HJ.out a7 bw.out h8 D8.out N (a3 _ (by simp;omega) O) ((((U.trans (Y.mono a5)).drewN q).alloc (by simp;omega) _).trans bv) (dW _ _),?_⟩
       simp [intOf]
       omega
  ·have bx:fW l=os:=by
    rw [ak.out]
    by_cases h2:2*k+1<l.length
    ·exact tH _ _ (fun h=>bd ⟨h2,h⟩)
    ·exact sM _ _ (by rw [cd];omega)
   have bM:(¬((2*k:Nat):Int)+1<l.length)∨(((2*k:Nat):Int)+1<l.length∧¬(os.length:Int)<8):=by omega
   have cB:=ab bx
   have AR:=ab (fy U c8 A1.out)
   have d0:wr.cell? ⟨w1.heap.size+1,0,none⟩=some (.int .u64 v):=ae _ _ 0 _ _ _ bc.out
   have p0:wr.cell? ⟨w.heap.size,0,none⟩=some (.int .u64 0):=ae _ _ 0 _ _ _ AR.out
   have p1:wr.cell? ⟨w.heap.size,1,none⟩=some (.slice none 0 0):=ae _ _ 1 _ _ _ AR.out
   have z0:=aj _ _ 0 _ _ AR.out
   have z1:=aj _ _ 1 _ _ AR.out
   have er:=fw AR.out
   have x0:((wr.setCell ⟨w.heap.size,0,none⟩ (.int .u64 v)).setCell ⟨w.heap.size,1,none⟩ (.slice G os.length d)).cell? ⟨w.heap.size,0,none⟩=some (.int .u64 v):=ae _ _ 0 _ _ _ (heap_setCell _ _ 1 _ (heap_setCell _ _ 0 _ AR.out))
   have x1:((wr.setCell ⟨w.heap.size,0,none⟩ (.int .u64 v)).setCell ⟨w.heap.size,1,none⟩ (.slice G os.length d)).cell? ⟨w.heap.size,1,none⟩=some (.slice G os.length d):=ae _ _ 1 _ _ _ (heap_setCell _ _ 1 _ (heap_setCell _ _ 0 _ AR.out))
   have b3:wr.grownBy ((wr.setCell ⟨w.heap.size,0,none⟩ (.int .u64 v)).setCell ⟨w.heap.size,1,none⟩ (.slice G os.length d)) (some w.heap.size):=fY (grownBy_set (Below.refl _ wr) 0 _) 1 _
   have d2:=(F.frame b3.size (fun b hb a6=>b3.block b a6 (fun e=>by cases e;have:=F.fL _ hb;omega))).mono (show w.heap.size≤w1.heap.size by omega)
   have hB:Below w.heap.size w ((wr.setCell ⟨w.heap.size,0,none⟩ (.int .u64 v)).setCell ⟨w.heap.size,1,none⟩ (.slice G os.length d)):=(b0.setCell (p:=⟨w.heap.size,0,none⟩) (af _) _).setCell (p:=⟨w.heap.size,1,none⟩) (af _) _
   clear bx bd F
   rcases bM with ht | ⟨ht,e5⟩
   all_goals
    go_wp2
    refine aI (v := .agg #[.int .u64 v,.slice G os.length d]) (by simp [results,Tryz.results11,go_sem,x0,x1]) rfl ⟨⟨_,rfl,?_⟩,hB⟩
    rw [cB.out]
    exact d2
end Go.Proofs.YtkkfmkhbdoeglaaGreatDoor
