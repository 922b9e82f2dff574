/- A part of what is proved here: lemmas and contracts of single functions. No condition but those that each names. -/
import Derived.Test.YtkkfmkhbdoeglabGreatDoorG00
import Derived.Test.YtkkfmkhbdoeglabGreatDoorG09
import Derived.Test.YtkkfmkhbdoeglabGreatDoorG14
import Derived.Test.YtkkfmkhbdoeglabGreatDoorG30
set_option maxHeartbeats 1000000
set_option maxRecDepth 100000
namespace Go.Proofs.YtkkfmkhbdoeglabGreatDoor
open Go.RowKit
def kj (w:World) (v:Value) (l:List Int):Prop:=fW w v 1 l.length (l.map fun x => .int .i64 x)
theorem kj.opened {w:World} {v:Value} {l:List Int} (h:kj w v l) :
  ∃ a cap,v = .slice a l.length cap∧l.length≤cap∧∀ i (h:i<l.length),∃ b off,a=some ⟨b,off,none⟩∧w.cell? ⟨b,off+i,none⟩=some (.int .i64 l[i]):=by
 obtain ⟨_,a,cap,rfl,hc,j⟩:=h
 refine ⟨a,cap,rfl,hc,fun i m => ?_⟩
 obtain ⟨b,off,rfl,d⟩:=j i (by rw [aG];exact m)
 exact ⟨b,off,rfl,by rw [d];simp⟩
theorem kj.below {w w':World} {v:Value} {l:List Int} (h:kj w v l) (b:Below w.heap.size w w'):kj w' v l:=fW.below h b
def iq:List Int→List OpB→List OpB
 | a::b::r,os=>if os.length<8 then iq r (if (il os).contains ((td a b).table,(td a b).key) then os else os++[td a b]) else os
 | _,os=>os
def fZ (l:List Int):List OpB:=iq l [td l.length 1]
theorem vQ:∀ (l:List Int) (os:List OpB),¬os.length<8→iq l os=os
 | [],os,_=>rfl
 | [_],os,_=>rfl
 | a::b::r,os,h=>by unfold iq;rw [au h]
theorem uK (l:List Int) (os:List OpB) (h:l.length<2):iq l os=os:=by
 match l,h with
 | [],_=>rfl
 | [_],_=>rfl
theorem qG:∀ (os:List OpB) (o:OpB) (i:Nat) (b:List K),gi i b os=none→iD o (b++il os)=0→gi i b (os++[o])=none
 | [],o,i,b,_,h=>by
  simp only [il,du,cM] at h
  simp [gi,h]
 | x::os,o,i,b,h1,h2=>by
  unfold gi at h1
  split at h1
  ·rename_i d
   rw [aX]
   unfold gi
   rw [aD d]
   refine qG os o (i+1) _ h1 ?_
   simpa [il] using h2
  ·cases h1
theorem lZ:∀ (n:Nat) (l:List Int) (os:List OpB),l.length≤n→gi 0 [] os=none→1≤os.length→os.length≤8→gi 0 [] (iq l os)=none∧1≤(iq l os).length∧(iq l os).length≤8
 | n,[],os,_,h,h1,h8=>⟨h,h1,h8⟩
 | n,[_],os,_,h,h1,h8=>⟨h,h1,h8⟩
 | 0,a::b::r,os,d,h,h1,h8=>by simp at d
 | n+1,a::b::r,os,d,h,h1,h8=>by
  unfold iq
  by_cases h9:os.length<8
  ·rw [aD h9]
   have i:r.length≤n:=by simp at d;omega
   cases hc:(il os).contains ((td a b).table,(td a b).key) with
   | true=>exact lZ n r os i h h1 h8
   | false =>
    refine lZ n r _ i (qG os _ 0 [] h (wN a b _ (by simpa using hc))) ?_ ?_
    ·simp
    ·simp;omega
  ·rw [au h9]
   exact ⟨h,h1,h8⟩
theorem jr (l:List Int) (v:Nat) (b:isVersionB v=true):gK v (fZ l)=none:=by
 have d:gi 0 [] [td l.length 1]=none:=by
  unfold gi
  rw [aD (wN _ _ _ rfl)]
  rfl
 obtain ⟨h1,h2,h3⟩:=lZ l.length l [td l.length 1] (af _) d (by simp) (by simp)
 unfold gK fZ
 rw [au (by rw [b];decide),au (by omega)]
 exact h1
theorem rh (l:List Int):1≤(fZ l).length∧(fZ l).length≤8:=by
 have b:gi 0 [] [td l.length 1]=none:=by
  unfold gi
  rw [aD (wN _ _ _ rfl)]
  rfl
 exact (lZ l.length l [td l.length 1] (af _) b (by simp) (by simp)).2
def k9 (w1:World) (D v:Nat) (l:List Int) (i:Value) (wr:World):Prop :=
 ∃ (k:Nat) (os:List OpB) (b:Value),i = .int .i64 ((2*k:Nat):Int)∧2*k≤l.length+1∧fZ l=iq (l.drop (2*k)) os∧1≤os.length∧os.length≤8∧
  wr.heap[D]?=some (.cells #[.int .u64 v,b] 51 (0,0))∧OwnS wr w1.heap.size 4 b os.length (gx os)∧b.ownBlock≠some D∧Below w1.heap.size w1 wr
def lh (b:World) (os:List OpB) (key:K) (t i:Value) (wr:World):Prop :=
 ∃ m:Nat,m≤os.length∧i = .int .i64 (m:Int)∧t = .bool ((il (os.take m)).contains key)∧∃ q,wr=b.drewN q
theorem EF (w:World) (o:Obj):(w.alloc o).drew.heap[w.heap.size]?=some o:=fR w o
theorem lh.step {d:World} {os:List OpB} {key:K} {m q:Nat} {b:Bool} (h:m<os.length) (i:b=((il (os.take m)).contains key || ((os[m].table,os[m].key)==key))):lh d os key (.bool b) (.int .i64 ((m+1:Nat):Int)) (d.drewN q):=by
 refine ⟨m+1,h,rfl,?_,q,rfl⟩
 rw [qf os m h,List.contains_append,i]
 congr 2
 simp only [List.contains_cons,List.contains_nil,Bool.or_false]
 exact dI.2 (by rw [a8,a8];exact eq_comm)
theorem vR {l:List Int} {k:Nat} {os:List OpB} (h:2*k+1<l.length) (h8:os.length<8) :
  iq (l.drop (2*k)) os=iq (l.drop (2*(k+1))) (if (il os).contains ((td l[2*k] l[2*k+1]).table,(td l[2*k] l[2*k+1]).key) then os else os++[td l[2*k] l[2*k+1]]):=by
 rw [b9 (by omega),b9 (by omega)]
 rw [iq,aD h8]
 rfl
theorem k9.next {w1 W:World} {D v j k:Nat} {l:List Int} {os:List OpB} {b:Value} (o:j=2*k) (hk:j+1<l.length) (i:fZ l=iq (l.drop (2*(k+1))) os) (h1:1≤os.length) (h8:os.length≤8)
  (r:W.heap[D]?=some (.cells #[.int .u64 v,b] 51 (0,0))) (d:OwnS W w1.heap.size 4 b os.length (gx os)) (m:b.ownBlock≠some D) (s:Below w1.heap.size w1 W) (q:Nat) :
  k9 w1 D v l (.int .i64 ((j:Int)+2)) (W.drewN q):=by
 subst o
 refine ⟨k+1,os,b,?_,by omega,i,h1,h8,r,d,m,s.drewN q⟩
 rw [show ((2*(k+1):Nat):Int)=((2*k:Nat):Int)+2 by omega]
theorem k9.snoc {w1 w8:World} {D v j k:Nat} {l:List Int} {os:List OpB} {o:OpB} {y i:Option Addr} {r d:Nat} (B:j=2*k) (hk:j+1<l.length) (u:fZ l=iq (l.drop (2*(k+1))) (os++[o])) (h8:os.length<8)
  (C:w8.heap[D]?=some (.cells #[.int .u64 v,.slice y os.length r] 51 (0,0))) (m:OwnS w8 w1.heap.size 4 (.slice i (os++[o]).length d) (os++[o]).length (gx (os++[o]))) (q:(Value.slice i (os++[o]).length d).ownBlock≠some D) (s:Below w1.heap.size w1 w8) (x:w1.heap.size≤D) :
  k9 w1 D v l (.int .i64 ((j:Int)+2)) (w8.setCell ⟨D,1,none⟩ (.slice i (os.length+1) d)):=by
 subst B
 have e:(os++[o]).length=os.length+1:=by simp
 rw [e] at m q
 refine ⟨k+1,os++[o],.slice i (os.length+1) d,?_,by omega,u,by simp,by rw [e];omega,heap_setCell w8 D 1 _ C,?_,q,s.setCell (p:=⟨D,1,none⟩) x _⟩
 ·rw [show ((2*(k+1):Nat):Int)=((2*k:Nat):Int)+2 by omega]
 ·rw [e]
  exact m.frame (by rw [size_setCell];exact af _) (fun b s _=>Below.heap_setCell w8 ⟨D,1,none⟩ _ b (fun e=>q (by rw [s,e])))
theorem rm (v:Nat) (rv:Value) (l:List Int) (w:World) (hr:kj w rv l) (c3:l.length≤gF) (bN:∀ x∈l,-9223372036854775808≤x∧x≤9223372036854775807) :
  Calls Tryz.prog 36 #[.int .u64 v,rv] w fun e w'=>(∃ sv,e = .returned (.agg #[.int .u64 v,sv])∧OwnS w' w.heap.size 4 sv (fZ l).length (gx (fZ l)))∧Below w.heap.size w w':=by
 obtain ⟨ra,d4,rfl,d2,-⟩:=hr.opened
 have HR:=ab hr
 have c4:=c3
 unfold gF at c4
 obtain ⟨D,a9⟩:∃ D,D=td l.length 1:=⟨_,rfl⟩
 have c5:=ab a9
 have av:=fun W=>wB (l.length:Int) 1 W (by omega) (by omega) (by omega) (by omega)
 rw [←a9] at av
 have b6:=ab av
 clear hr a9 av
 go_enter Tryz.func36,Tryz.ntmps36
 go_wp2_with fail
 refine (b6.out _).mono ?_
 rintro e w1 ⟨rfl,bO⟩
 unfold zu
 have A1:=ab (fQ bO (by simp) (fR w (.cells #[.int .u64 0,.slice none 0 0] 51)))
 have e7:Below w.heap.size w w1:=((Below.refl _ w).alloc (af _) _).trans (bO.mono (by simp))
 have c8:=fO A1.out
 go_wp2
 have h0:k9 w1 (w1.heap.size+1) v l (.int .i64 0) ((w1.alloc (.cells #[.int .i64 D.kind,.int .i64 D.table,.string ⟨D.key.toArray⟩,.string ⟨D.val.toArray⟩] 105)).alloc (.cells #[.int .u64 (v:Int),.slice (some ⟨w1.heap.size,0,none⟩) 1 1] 51)):=by
  have hn:=OwnS.new w1 #[.int .i64 D.kind,.int .i64 D.table,.string ⟨D.key.toArray⟩,.string ⟨D.val.toArray⟩] 105 0 0 w1.heap.size 4 1 1 (af _) (by omega) (by decide) (by simp) (.inl (by omega))
  have hD:=fR (w1.alloc (.cells #[.int .i64 D.kind,.int .i64 D.table,.string ⟨D.key.toArray⟩,.string ⟨D.val.toArray⟩] 105)) (.cells #[.int .u64 (v:Int),.slice (some ⟨w1.heap.size,0,none⟩) 1 1] 51)
  rw [aw] at hD
  refine ⟨0,[D],_,rfl,by omega,by unfold fZ;rw [c5.out];rfl,by simp,by simp,hD,hn.below ((Below.refl _ _).alloc (af _) _),by simp [Value.ownBlock],((Below.refl _ w1).alloc (af _) _).alloc (by simp) _⟩
 generalize bP:(w1.alloc (.cells #[.int .i64 D.kind,.int .i64 D.table,.string ⟨D.key.toArray⟩,.string ⟨D.val.toArray⟩] 105)).alloc (.cells #[.int .u64 (v:Int),.slice (some ⟨w1.heap.size,0,none⟩) 1 1] 51)=w5
 rw [bP] at h0
 clear bP
 go_loopw [6] (fun i wr=>k9 w1 (w1.heap.size+1) v l i wr) (fun i _=>l.length+2-(intOf i).toNat)
 case atStart=>exact h0
 case round =>
  clear h0
  obtain ⟨k,os,sv,rfl,hk,bS,ba,bb,hD,F,O,U⟩:=hrel
  obtain ⟨G,d,rfl⟩:=F.shape
  have a5:=U.size
  have bc:=ab hD
  have bX:=fO hD
  have ak:=ab bS
  have d1:wr.cell? ⟨w1.heap.size+1,1,none⟩=some (.slice G os.length d):=ae _ _ 1 _ _ _ hD
  have b0:Below w.heap.size w wr:=e7.trans (U.mono e7.size)
  clear hD bS
  by_cases be:2*k+1<l.length∧os.length<8
  ·obtain ⟨a6,h8⟩:=be
   have b8:((2*k:Nat):Int)+1<l.length:=by omega
   have eC:(os.length:Int)<8:=by omega
   obtain ⟨eD,d3,he,-,Z⟩:=(HR.out.below b0).opened
   cases he
   obtain ⟨rb,ro,rfl,c0⟩:=Z (2*k) (by omega)
   obtain ⟨eS,eT,he,c1⟩:=Z (2*k+1) (by omega)
   cases he
   have al:=ab (vR a6 h8)
   have bi:=bN l[2*k] (cD (by omega))
   have bk:=bN l[2*k+1] (cD (by omega))
   have bl:=fun W=>wB l[2*k] l[2*k+1] W bi.1 bi.2 bk.1 bk.2
   generalize l[2*k]=xa at *
   generalize l[2*k+1]=xb at *
   obtain ⟨⟨B,T,r,C⟩,ho⟩:∃ o,o=td xa xb:=⟨_,rfl⟩
   rw [←ho] at bl al
   have b1:=ab bl
   clear ho bl bi bk Z
   have b2:=fU c0
   obtain ⟨j,hj⟩:∃ j,j=2*k:=⟨_,rfl⟩
   have HJ:=ab hj
   rw [←hj] at c0 c1 b8
   rw [←hj]
   have a7:j+1<l.length:=by omega
   have eV:(j:Int)+1<l.length:=by omega
   clear hj a6
   unfold zu at b1
   go_wp2
   have g0:(0:Int)≤(j:Int):=by omega
   have g4:(j:Int)<l.length:=by omega
   have g1:IntKind.i64.wrap ((j:Int)+1)=(j:Int)+1:=IntWalk.i64_in _ (by omega)
   have g2:(0:Int)≤(j:Int)+1:=by omega
   have g3:((j:Int)+1).toNat=j+1:=by omega
   go_region_held3 (fun w'=>w'.cell? ⟨rb,ro+j,none⟩=some (.int .i64 xa)∧w'.cell? ⟨rb,ro+(j+1),none⟩=some (.int .i64 xb))
    (first | with_reducible exact ⟨e0,e6⟩ | with_reducible exact ⟨k0,k1⟩ | go_keep)
    ((go_at_call 84;refine (b1.out _).mono ?_;rintro e I ⟨rfl,Q⟩;
      have d7:rb<I.heap.size:=(by have h9:=Q.size;simp at h9;omega);
      have e0:I.cell? ⟨rb,ro+j,none⟩=some (.int .i64 xa):=(Q.cell (p:=⟨rb,ro+j,none⟩) (by simp;omega)).trans (by go_keep);
      have e6:I.cell? ⟨rb,ro+(j+1),none⟩=some (.int .i64 xb):=(Q.cell (p:=⟨rb,ro+(j+1),none⟩) (by simp;omega)).trans (by go_keep);
      (first
       | (have hA:Below wr.drew.heap.size wr.drew I:=by with_reducible exact Q)
       | (have V:I.heap[wr.heap.size]?=some (.cells #[.int .i64 0,.int .i64 0,.string ⟨#[]⟩,.string ⟨#[]⟩] 105 (0,0)):=fQ Q (by simp) (EF wr _);
          have m0:=ae _ _ 0 _ _ _ V;have m1:=ae _ _ 1 _ _ _ V;have m2:=ae _ _ 2 _ _ _ V;have m3:=ae _ _ 3 _ _ _ V;
          have n0:=aj _ _ 0 _ _ V;have n1:=aj _ _ 1 _ _ V;have n2:=aj _ _ 2 _ _ V;have n3:=aj _ _ 3 _ _ V;have e1:=fO V;have da:=ab V;clear V;
          have k0:=wV (.int .i64 B) (.int .i64 T) (.string ⟨r.toArray⟩) (.string ⟨C.toArray⟩) (fL b2) e0;
          have k1:=wV (.int .i64 B) (.int .i64 T) (.string ⟨r.toArray⟩) (.string ⟨C.toArray⟩) (fL b2) e6;
          unfold uP at k0 k1))))
   ·have R:=fR I (.cells #[.int .i64 B,.int .i64 T,.string ⟨r.toArray⟩,.string ⟨C.toArray⟩] 105)
    have S:Below wr.heap.size wr (I.alloc (.cells #[.int .i64 B,.int .i64 T,.string ⟨r.toArray⟩,.string ⟨C.toArray⟩] 105)):=(((Below.refl wr.heap.size wr).drew).trans hA).alloc hA.size _
    have ht:wr.heap.size≤I.heap.size:=hA.size
    generalize am:I.alloc (.cells #[.int .i64 B,.int .i64 T,.string ⟨r.toArray⟩,.string ⟨C.toArray⟩] 105)=y
    rw [am] at R S
    have X:=ab R
    have Y:=S
    clear am R S e0 e6 hA Q
    have D7:=ab (fQ Y bX bc.out)
    have E:Hid (OwnS y w1.heap.size 4 (.slice G os.length d) os.length (gx os)):=ab (F.below Y)
    have dk:=Y.size
    have cl:=fO X.out
    have co:=fO D7.out
    clear F g1 g2 g3 c0 c1
    go_wp2
    go_loopw [8,9] (fun tw i wi=>lh y os (T,r) tw i wi) (fun _ i _=>os.length-(intOf i).toNat)
    case atStart=>exact ⟨0,aM _,rfl,rfl,0,rfl⟩
    case round =>
     obtain ⟨m,hm,rfl,rfl,q,rfl⟩:=hrel
     have q1:y.cell? ⟨w1.heap.size+1,1,none⟩=some (.slice G os.length d):=ae _ _ 1 _ _ _ D7.out
     have u1:y.cell? ⟨I.heap.size,1,none⟩=some (.int .i64 T):=ae _ _ 1 _ _ _ X.out
     have u2:y.cell? ⟨I.heap.size,2,none⟩=some (.string ⟨r.toArray⟩):=ae _ _ 2 _ _ _ X.out
     by_cases J:m<os.length
     ·obtain ⟨dl,bL,he,-,Z⟩:=E.out.ops.opened
      cases he
      obtain ⟨sb,so,rfl,x0,x1,x2,x3⟩:=Z m J
      clear Z x0 x3
      have cs:(m:Int)<os.length:=by omega
      have ct:=fU x1
      cases s:(il (os.take m)).contains (T,r) with
      | true =>
       have u:=ab s
       clear s
       go_wp2
       go_quiet (fail)
       go_wp2
       exact ⟨lh.step J (by rw [u.out];rfl),by simp [intOf];omega⟩
      | false =>
       have u:=ab s
       clear s
       cases hq:((os[m].table,os[m].key)==(T,r)) with
       | true =>
        have heq:∀ w,(binOp .eql 103 (.agg #[.int .i64 os[m].table,.string ⟨os[m].key.toArray⟩]) (.agg #[.int .i64 T,.string ⟨r.toArray⟩])).run Tryz.prog w = .ok (.bool true) w:=fun w=>by rw [vd,hq]
        have HQ:=ab hq
        clear hq
        go_wp2
        go_quiet (fail)
        go_wp2
        exact ⟨lh.step J (by rw [u.out,HQ.out];rfl),by simp [intOf];omega⟩
       | false =>
        have heq:∀ w,(binOp .eql 103 (.agg #[.int .i64 os[m].table,.string ⟨os[m].key.toArray⟩]) (.agg #[.int .i64 T,.string ⟨r.toArray⟩])).run Tryz.prog w = .ok (.bool false) w:=fun w=>by rw [vd,hq]
        have HQ:=ab hq
        clear hq
        go_wp2
        go_quiet (fail)
        go_wp2
        exact ⟨lh.step J (by rw [u.out,HQ.out];rfl),by simp [intOf];omega⟩
     ·obtain rfl:m=os.length:=by omega
      have dn:¬(os.length:Int)<os.length:=by omega
      rw [bC]
      cases s:(il os).contains (T,r) with
      | true =>
       have u:=ab s
       clear s
       go_wp2
       refine ⟨k9.next HJ.out a7 (by rw [ak.out,al.out,aD u.out]) ba bb D7.out E.out O (U.trans (Y.mono a5)) q,?_⟩
       simp [intOf]
       omega
      | false =>
       have u:=ab s
       clear s
       have u0:y.cell? ⟨I.heap.size,0,none⟩=some (.int .i64 B):=ae _ _ 0 _ _ _ X.out
       have u3:y.cell? ⟨I.heap.size,3,none⟩=some (.string ⟨C.toArray⟩):=ae _ _ 3 _ _ _ X.out
       have M:OwnS ((y.drewN q).alloc (.cells #[.int .i64 B,.int .i64 T,.string ⟨r.toArray⟩,.string ⟨C.toArray⟩] 105)) w1.heap.size 4 (.slice G os.length d) os.length (gx os):=OwnS.below (w:=y.drewN q) E.out ((Below.refl _ _).alloc (af _) _)
       have br:=ab M
       have ap:=fX (y.drewN q) (.cells #[.int .i64 B,.int .i64 T,.string ⟨r.toArray⟩,.string ⟨C.toArray⟩] 105) D7.out
       have bs:=ab ap
       have a2:=ab (wM (y.drewN q) ⟨B,T,r,C⟩)
       clear M ap
       go_wp2_with (at_builtin;refine jN rfl (.tmp 61) (.tmp 63) rfl w1.heap.size (.slice G os.length d) os rfl (by exact br.out) [⟨B,T,r,C⟩] (by exact a2.out) (by simp;omega) (by simp;omega) ?_;intro v8 w8 N bt bv a3;obtain ⟨dp,cu,rfl⟩:=N.shape;have D8:=ab (iN bt O bs.out);have y1:w8.cell? ⟨w1.heap.size+1,1,none⟩=some (.slice G os.length d):=ae _ _ 1 _ _ _ D8.out;have z1:=aj _ _ 1 _ _ D8.out;have cv:=fO D8.out)
       have bw:Hid (fZ l=iq (l.drop (2*(k+1))) (os++[⟨B,T,r,C⟩])):=ab (by rw [ak.out,al.out,au (by rw [u.out];decide)])
       refine ⟨k9.snoc HJ.out a7 bw.out h8 D8.out N (a3 _ (by simp;omega) O) ((((U.trans (Y.mono a5)).drewN q).alloc (by simp;omega) _).trans bv) (eh _ _),?_⟩
       simp [intOf]
       omega
   ·have e8:Below wr.heap.size wr I:=(((Below.refl wr.heap.size wr).alloc (af _) _).drew).trans (Q.mono (by simp))
    have R:=yA da.out (.int .i64 B) (.int .i64 T) (.string ⟨r.toArray⟩) (.string ⟨C.toArray⟩)
    have S:=pJ e8 wr.heap.size (.int .i64 B) (.int .i64 T) (.string ⟨r.toArray⟩) (.string ⟨C.toArray⟩) (af _)
    unfold uP at R S
    generalize am:(((I.setCell ⟨wr.heap.size,0,none⟩ (.int .i64 B)).setCell ⟨wr.heap.size,1,none⟩ (.int .i64 T)).setCell ⟨wr.heap.size,2,none⟩ (.string ⟨r.toArray⟩)).setCell ⟨wr.heap.size,3,none⟩ (.string ⟨C.toArray⟩)=y
    rw [am] at R S
    have X:=ab R
    have Y:=S
    clear am R S e0 e6 Q e8 k0 k1 m0 m1 m2 m3 n0 n1 n2 n3
    have D7:=ab (fQ Y bX bc.out)
    have E:Hid (OwnS y w1.heap.size 4 (.slice G os.length d) os.length (gx os)):=ab (F.below Y)
    have dk:=Y.size
    have cl:=fO X.out
    have co:=fO D7.out
    clear F g1 g2 g3 c0 c1
    go_wp2
    go_loopw [8,9] (fun tw i wi=>lh y os (T,r) tw i wi) (fun _ i _=>os.length-(intOf i).toNat)
    case atStart=>exact ⟨0,aM _,rfl,rfl,0,rfl⟩
    case round =>
     obtain ⟨m,hm,rfl,rfl,q,rfl⟩:=hrel
     have q1:y.cell? ⟨w1.heap.size+1,1,none⟩=some (.slice G os.length d):=ae _ _ 1 _ _ _ D7.out
     have u1:y.cell? ⟨wr.heap.size,1,none⟩=some (.int .i64 T):=ae _ _ 1 _ _ _ X.out
     have u2:y.cell? ⟨wr.heap.size,2,none⟩=some (.string ⟨r.toArray⟩):=ae _ _ 2 _ _ _ X.out
     by_cases J:m<os.length
     ·obtain ⟨dl,bL,he,-,Z⟩:=E.out.ops.opened
      cases he
      obtain ⟨sb,so,rfl,x0,x1,x2,x3⟩:=Z m J
      clear Z x0 x3
      have cs:(m:Int)<os.length:=by omega
      have ct:=fU x1
      cases s:(il (os.take m)).contains (T,r) with
      | true =>
       have u:=ab s
       clear s
       go_wp2
       go_quiet (fail)
       go_wp2
       exact ⟨lh.step J (by rw [u.out];rfl),by simp [intOf];omega⟩
      | false =>
       have u:=ab s
       clear s
       cases hq:((os[m].table,os[m].key)==(T,r)) with
       | true =>
        have heq:∀ w,(binOp .eql 103 (.agg #[.int .i64 os[m].table,.string ⟨os[m].key.toArray⟩]) (.agg #[.int .i64 T,.string ⟨r.toArray⟩])).run Tryz.prog w = .ok (.bool true) w:=fun w=>by rw [vd,hq]
        have HQ:=ab hq
        clear hq
        go_wp2
        go_quiet (fail)
        go_wp2
        exact ⟨lh.step J (by rw [u.out,HQ.out];rfl),by simp [intOf];omega⟩
       | false =>
        have heq:∀ w,(binOp .eql 103 (.agg #[.int .i64 os[m].table,.string ⟨os[m].key.toArray⟩]) (.agg #[.int .i64 T,.string ⟨r.toArray⟩])).run Tryz.prog w = .ok (.bool false) w:=fun w=>by rw [vd,hq]
        have HQ:=ab hq
        clear hq
        go_wp2
        go_quiet (fail)
        go_wp2
        exact ⟨lh.step J (by rw [u.out,HQ.out];rfl),by simp [intOf];omega⟩
     ·obtain rfl:m=os.length:=by omega
      have dn:¬(os.length:Int)<os.length:=by omega
      rw [bC]
      cases s:(il os).contains (T,r) with
      | true =>
       have u:=ab s
       clear s
       go_wp2
       refine ⟨k9.next HJ.out a7 (by rw [ak.out,al.out,aD u.out]) ba bb D7.out E.out O (U.trans (Y.mono a5)) q,?_⟩
       simp [intOf]
       omega
      | false =>
       have u:=ab s
       clear s
       have u0:y.cell? ⟨wr.heap.size,0,none⟩=some (.int .i64 B):=ae _ _ 0 _ _ _ X.out
       have u3:y.cell? ⟨wr.heap.size,3,none⟩=some (.string ⟨C.toArray⟩):=ae _ _ 3 _ _ _ X.out
       have M:OwnS ((y.drewN q).alloc (.cells #[.int .i64 B,.int .i64 T,.string ⟨r.toArray⟩,.string ⟨C.toArray⟩] 105)) w1.heap.size 4 (.slice G os.length d) os.length (gx os):=OwnS.below (w:=y.drewN q) E.out ((Below.refl _ _).alloc (af _) _)
       have br:=ab M
       have ap:=fX (y.drewN q) (.cells #[.int .i64 B,.int .i64 T,.string ⟨r.toArray⟩,.string ⟨C.toArray⟩] 105) D7.out
       have bs:=ab ap
       have a2:=ab (wM (y.drewN q) ⟨B,T,r,C⟩)
       clear M ap
       go_wp2_with (at_builtin;refine jN rfl (.tmp 61) (.tmp 63) rfl w1.heap.size (.slice G os.length d) os rfl (by exact br.out) [⟨B,T,r,C⟩] (by exact a2.out) (by simp;omega) (by simp;omega) ?_;intro v8 w8 N bt bv a3;obtain ⟨dp,cu,rfl⟩:=N.shape;have D8:=ab (iN bt O bs.out);have y1:w8.cell? ⟨w1.heap.size+1,1,none⟩=some (.slice G os.length d):=ae _ _ 1 _ _ _ D8.out;have z1:=aj _ _ 1 _ _ D8.out;have cv:=fO D8.out)
       have bw:Hid (fZ l=iq (l.drop (2*(k+1))) (os++[⟨B,T,r,C⟩])):=ab (by rw [ak.out,al.out,au (by rw [u.out];decide)])
       refine ⟨k9.snoc HJ.out a7 bw.out h8 D8.out N (a3 _ (by simp;omega) O) ((((U.trans (Y.mono a5)).drewN q).alloc (by simp;omega) _).trans bv) (eh _ _),?_⟩
       simp [intOf]
       omega
  ·have bx:fZ l=os:=by
    rw [ak.out]
    by_cases h2:2*k+1<l.length
    ·exact vQ _ _ (fun h=>be ⟨h2,h⟩)
    ·exact uK _ _ (by rw [bg];omega)
   have bM:(¬((2*k:Nat):Int)+1<l.length)∨(((2*k:Nat):Int)+1<l.length∧¬(os.length:Int)<8):=by omega
   have cB:=ab bx
   have AR:=ab (fQ U c8 A1.out)
   have d0:wr.cell? ⟨w1.heap.size+1,0,none⟩=some (.int .u64 v):=ae _ _ 0 _ _ _ bc.out
   have p0:wr.cell? ⟨w.heap.size,0,none⟩=some (.int .u64 0):=ae _ _ 0 _ _ _ AR.out
   have p1:wr.cell? ⟨w.heap.size,1,none⟩=some (.slice none 0 0):=ae _ _ 1 _ _ _ AR.out
   have z0:=aj _ _ 0 _ _ AR.out
   have z1:=aj _ _ 1 _ _ AR.out
   have em:=fO AR.out
   have x0:((wr.setCell ⟨w.heap.size,0,none⟩ (.int .u64 v)).setCell ⟨w.heap.size,1,none⟩ (.slice G os.length d)).cell? ⟨w.heap.size,0,none⟩=some (.int .u64 v):=ae _ _ 0 _ _ _ (heap_setCell _ _ 1 _ (heap_setCell _ _ 0 _ AR.out))
   have x1:((wr.setCell ⟨w.heap.size,0,none⟩ (.int .u64 v)).setCell ⟨w.heap.size,1,none⟩ (.slice G os.length d)).cell? ⟨w.heap.size,1,none⟩=some (.slice G os.length d):=ae _ _ 1 _ _ _ (heap_setCell _ _ 1 _ (heap_setCell _ _ 0 _ AR.out))
   have b3:wr.grownBy ((wr.setCell ⟨w.heap.size,0,none⟩ (.int .u64 v)).setCell ⟨w.heap.size,1,none⟩ (.slice G os.length d)) (some w.heap.size):=gG (grownBy_set (Below.refl _ wr) 0 _) 1 _
   have dT:=(F.frame b3.size (fun b hb a6=>b3.block b a6 (fun e=>by cases e;have:=F.gh _ hb;omega))).mono (show w.heap.size≤w1.heap.size by omega)
   have hB:Below w.heap.size w ((wr.setCell ⟨w.heap.size,0,none⟩ (.int .u64 v)).setCell ⟨w.heap.size,1,none⟩ (.slice G os.length d)):=(b0.setCell (p:=⟨w.heap.size,0,none⟩) (af _) _).setCell (p:=⟨w.heap.size,1,none⟩) (af _) _
   clear bx be F
   rcases bM with ht | ⟨ht,e2⟩
   all_goals
    go_wp2
    refine aI (v := .agg #[.int .u64 v,.slice G os.length d]) (by simp [results,Tryz.results36,go_sem,x0,x1]) rfl ⟨⟨_,rfl,?_⟩,hB⟩
    rw [cB.out]
    exact dT
end Go.Proofs.YtkkfmkhbdoeglabGreatDoor
