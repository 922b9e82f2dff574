/- A part of what is proved here: lemmas and contracts of single functions. No condition but those that each names. -/
import Derived.Test.YtkkfmkhbdoeglabGreatDoorG00
import Derived.Test.YtkkfmkhbdoeglabGreatDoorG02
import Derived.Test.YtkkfmkhbdoeglabGreatDoorG03
import Derived.Test.YtkkfmkhbdoeglabGreatDoorG06
import Derived.Test.YtkkfmkhbdoeglabGreatDoorG08
import Derived.Test.YtkkfmkhbdoeglabGreatDoorG09
import Derived.Test.YtkkfmkhbdoeglabGreatDoorG13
import Derived.Test.YtkkfmkhbdoeglabGreatDoorG14
import Derived.Test.YtkkfmkhbdoeglabGreatDoorG20
set_option maxHeartbeats 1000000
set_option maxRecDepth 100000
namespace Go.Proofs.YtkkfmkhbdoeglabGreatDoor
open Go.RowKit Go.Shelf
attribute [local go_sem] Oper.semAt_some
structure lE (r:Nat) (W W':World):Prop where
 size:W.heap.size≤W'.heap.size
 map:W'.heap[r]?=W.heap[r]?
 iters:∀ (k:Nat) (m:Option Nat) (a:Nat) (b:Array Nat) (c:Nat),W.heap[k]?=some (.mapIter m a b c)→W'.heap[k]?=some (.mapIter m a b c)
theorem lE.refl {r:Nat} (W:World):lE r W W:=⟨af _,rfl,fun _ _ _ _ _ h=>h⟩
theorem lE.trans {r:Nat} {A B C:World} (h:lE r A B) (k:lE r B C):lE r A C:=⟨aH h.size k.size,k.map.trans h.map,fun i m a b c d=>k.iters i m a b c (h.iters i m a b c d)⟩
theorem lE.gD {r:Nat} {W W':World} (h:Below W.heap.size W W') (d:r<W.heap.size):lE r W W':=⟨h.size,h.block r d,fun k m a b _c hk=>(h.block k (fO hk)).trans hk⟩
theorem lE.Gk {r j:Nat} {W W':World} (h:W.grownBy W' (some j)) (d:r<W.heap.size) (i:j≠r) (l:∀ m a b c,W.heap[j]?≠some (.mapIter m a b c)):lE r W W' :=
 ⟨h.size,h.block r d (fun e=>i (by cases e;rfl)),fun k m a b c hk=>(h.block k (fO hk) (fun e=>by cases e;exact l m a b c hk)).trans hk⟩
theorem gB.ES {w w':World} {r q:Nat} {l pre:List (K×Value)} (h:gB w r q l pre) (hk:lE r w w'):gB w' r q l pre:=by
 obtain ⟨zs,d,clock,since,c0,h1,h2,i,b,rest⟩:=h
 exact ⟨zs,d,clock,since,c0,h1,h2,hk.map.trans i,hk.iters q _ _ _ _ b,rest⟩
theorem Cp (h:Nat) (w:World):Calls Tryz.prog 243 #[.agg #[.pointer (some ⟨h,0,none⟩)]] w fun e w' =>
  e = .returned (.func (.func 244) #[] #[.pointer (some ⟨w.heap.size,0,none⟩)])∧w'=w.alloc (.cells #[.pointer (some ⟨h,0,none⟩)] 116):=by
 go_enter Tryz.func243,Tryz.ntmps243
 go_wp2
 go_ret
 exact ⟨rfl,rfl⟩
theorem Cq (n:Nat) (hn:1≤n) (o h:Nat) (x:HV) (S:List E) (w:World) (Y:o<w.heap.size) (hm:w.cell? ⟨o,0,none⟩=some (.pointer (some ⟨h,0,none⟩))) (M:HostIs w h x) (Z:TabAt w x.r S) :
  SeqStopsK Fence.wide n Tryz.prog 244 #[.pointer (some ⟨o,0,none⟩)] (fun x:E=>#[kV x.1,.string ⟨x.2.toArray⟩]) (lE x.r) (fun xs=>xs.Perm S) (fun _=>True) S.length w:=by
 intro l J Jx W N C be hY h0
 obtain ⟨r,O⟩:∃ r,r=x.r:=⟨_,rfl⟩
 rw [←O] at hY
 have i:=M.gr (N.block _ M.lt)
 unfold HostIs HV.cells at i
 have F:=ae _ _ 10 _ _ _ i
 simp only [bQ,aY,bB] at F
 rw [←O] at F Z
 obtain ⟨G,L,q,Q⟩:=Z
 have D:fY W r L:=q.gr (N.block _ q.lt)
 have bi:W.cell? ⟨o,0,none⟩=some (.pointer (some ⟨h,0,none⟩)):=(N.cell (p:=⟨o,0,none⟩) Y).trans hm
 have hlen:L.length=S.length:=by rw [Q.length_eq,aG]
 have HP:=ab Q
 have HN:=ab G.nodup
 have bk:=fO i
 clear M i O hm G Q
 refine callsIn_of_wp Tryz.func244 rfl cL ?_ rfl
 try simp only [Tryz.ntmps244,dC,ar,aJ,Nat.reduceAdd,Nat.reduceSub,bf,bu,bT,dG,aO,aX]
 gi_wp2_with (first
  | (gi_at_range;refine oF rfl _ rfl Tryz.underlying123 rfl D ?_;intro w0 R b bl)
  | gi_in)
 try go_frame
 gi_loopw [3,4] (fun _ _ wr=>∃ pre:List E,gB wr r W.heap.size L (pre.map zS)∧J pre wr) (fun _ _ wr=>wr.rangeLeft r W.heap.size)
 case atStart =>
  exact ⟨[],R,C [] W w0 none h0 ⟨b.os,b.tape,b.output,b.size,fun k hk _=>b.block k hk⟩ (fun r e=>by cases e)⟩
 case round =>
  obtain ⟨pre,j,I⟩:=hrel
  gi_wp2_with (first
   | (gi_at_next;refine o8 rfl _ rfl rfl j ?_ ?_)
   | gi_in)
  ·intro ak
   have al:=ab (qS (kH j.sub.2.2) HN.out (ak.trans HP.out))
   gi_wp2
   go_end0
   exact ⟨⟨_,rfl⟩,.inl ⟨_,al.out,I⟩⟩
  ·intro s u v w2 hx bn d ap av aE bo
   obtain ⟨⟨k',y⟩,a0,e⟩:=aB.1 (HP.out.mem_iff.1 hx)
   cases e
   have a1:J pre w2:=C _ wr w2 (some W.heap.size) I ap (fun r e=>by cases e;exact ⟨af _,j.iter_walk⟩)
   have a2:pre.length<S.length:=by
    have h1:=d.left
    simp at h1
    omega
   have U:J pre ((w2.alloc (.cells #[.int .i64 s,.string ⟨u.toArray⟩] 103)).alloc (.cells #[.string ⟨y.toArray⟩] 179)):=C _ _ _ none (C _ w2 _ none a1 (dH w2 _ none) (fun r e=>by cases e)) (dH _ _ none) (fun r e=>by cases e)
   have m:=(d.of_walks (KeepsWalks.alloc w2 (.cells #[.int .i64 s,.string ⟨u.toArray⟩] 103))).of_walks (KeepsWalks.alloc _ (.cells #[.string ⟨y.toArray⟩] 179))
   obtain ⟨fn,tmps,assign,body,hy,hR⟩:=hY pre ((s,u),y) ((w2.alloc (.cells #[.int .i64 s,.string ⟨u.toArray⟩] 103)).alloc (.cells #[.string ⟨y.toArray⟩] 179)) U a2
   have hle:=j.left
   have V:=d.left
   simp only [aq,ar,aJ] at V
   clear av hx a0
   unfold kV jh at hy
   unfold kU at aE
   unfold kU
   have a3:=ab m
   clear m
   gi_wp2
   refine hR.mono ?_
   rintro e W3 (⟨rfl,a4,a5⟩ | ⟨rfl,X⟩)
   ·gi_wp2
    have B:gB W3 r W.heap.size L ((pre++[((s,u),y)]).map zS):=by
     rw [bm]
     exact a3.out.ES a5
    go_roundw
    case rel=>exact ⟨_,B,a4⟩
    case measure =>
     have:=B.left
     simp only [bm,bq,du,aq,ar,aJ] at this
     omega
   ·gi_wp2
    refine aI (dF rfl _ _ _) rfl ?_
    exact ⟨⟨_,rfl⟩,.inr ⟨_,cL,X⟩⟩
end Go.Proofs.YtkkfmkhbdoeglabGreatDoor
namespace Go.Proofs.YtkkfmkhbdoeglabGreatDoor
theorem vG (n:Nat) (i:n<4294967296):∃ a b c d,zP n=[a,b,c,d]∧lW a b c d=n:=by
 refine ⟨_,_,_,_,rfl,?_⟩
 exact ((IC n i _ _ _ _).1 rfl).symm
theorem mi (k:UInt8) (l:List UInt8):ig (sealB k l) = .inl (k,l):=by
 obtain ⟨a,b,c,d,h1,h2⟩:=vG (DJ (k::l)) (FH _)
 unfold sealB
 rw [h1,nC,aD h2.symm]
end Go.Proofs.YtkkfmkhbdoeglabGreatDoor
namespace Go.Proofs.YtkkfmkhbdoeglabGreatDoor
def JE (N n:Nat):Nat:=N / 2^(32-n)
def pr (N n:Nat):Nat:=JE N n*2^(32-n)
def n9 (N n:Nat):List UInt8:=zP N++[UInt8.ofNat n]
theorem He (N n:Nat):pr N n≤N:=Nat.div_mul_le_self _ _
theorem Hc {M N:Nat} (hm:M<4294967296) (i:N<4294967296) (h:zP M=zP N):M=N:=by
 obtain ⟨a,b,c,d,h1,h2⟩:=vG M hm
 obtain ⟨j,l,c',d',h3,h4⟩:=vG N i
 rw [h1,h3] at h
 cases h
 exact h2.symm.trans h4
theorem FZ {M N m n:Nat} (b:M<4294967296) (d:N<4294967296) (hm:m≤32) (i:n≤32) (h:n9 M m=n9 N n):M=N∧m=n:=by
 unfold n9 at h
 obtain ⟨h1,h2⟩:=List.append_inj h (by simp [zP])
 refine ⟨Hc b d h1,?_⟩
 have:=aZ (fun l=>l.map UInt8.toNat) h2
 simp at this
 omega
def Iy (e:E):Prop:=∃ N n,n≤32∧N<4294967296∧e.1=(1,n9 N n)
def kM (A:Nat) (S:List E) (d:Int) (value:List UInt8):Prop :=
 SortedE S∧(∀ e∈S,Iy e)∧((d = -1∧value=[]∧∀ N n v,((1,n9 N n),v)∈S→n≤32→N<4294967296→pr A n≠N)∨
  ∃ b:Nat,d=b∧b≤32∧((1,n9 (pr A b) b),value)∈S∧∀ N n v,((1,n9 N n),v)∈S→n≤32→N<4294967296→pr A n=N→n≤b)
theorem kM.start (A:Nat):kM A [] (-1) []:=⟨SortedE.nil,(fun _ h=>by cases h),.inl ⟨rfl,rfl,fun _ _ _ h=>by cases h⟩⟩
theorem kM.step {A:Nat} {S:List E} {j:Int} {value v:List UInt8} {N n:Nat} (h:kM A S j value) (_hA:A<4294967296) (s:n≤32) (u:N<4294967296) (o:∀ x∈S,x.1≠(1,n9 N n)) :
  kM A (ke (1,n9 N n) v S) (if pr A n=N∧j<n then (n:Int) else j) (if pr A n=N∧j<n then v else value):=by
 obtain ⟨hs,C,l⟩:=h
 refine ⟨sorted_put _ _ hs,fun e he => ?_,?_⟩
 ·rcases (jA _ _ _ _).1 he with rfl | ⟨h1,-⟩
  ·exact ⟨N,n,s,u,rfl⟩
  ·exact C e h1
 ·have hold:∀ d i v',((1,n9 d i),v')∈ke (1,n9 N n) v S→i≤32→d<4294967296→(d=N∧i=n)∨((1,n9 d i),v')∈S:=by
   intro d i v' hm h1 h2
   rcases (jA _ _ _ _).1 hm with e | ⟨h3,-⟩
   ·have:=aZ (fun x:E=>x.1.2) e
    exact .inl (FZ h2 u h1 s this)
   ·exact .inr h3
  by_cases hc:pr A n=N∧j<n
  ·rw [aD hc,aD hc]
   refine .inr ⟨n,rfl,s,(jA _ _ _ _).2 (.inl (by rw [hc.1])),fun d i v' hm h1 h2 h3 => ?_⟩
   rcases hold d i v' hm h1 h2 with ⟨-,rfl⟩ | m
   ·exact af _
   ·rcases l with ⟨-,-,l⟩ | ⟨b,q,-,-,l⟩
    ·exact absurd h3 (l d i v' m h1 h2)
    ·have:=l d i v' m h1 h2 h3
     have:=hc.2
     omega
  ·rw [au hc,au hc]
   rcases l with ⟨y,D,l⟩ | ⟨b,q,B,r,l⟩
   ·refine .inl ⟨y,D,fun d i v' hm h1 h2 h3 => ?_⟩
    rcases hold d i v' hm h1 h2 with ⟨rfl,rfl⟩ | m
    ·exact hc ⟨h3,by omega⟩
    ·exact l d i v' m h1 h2 h3
   ·refine .inr ⟨b,q,B,(jA _ _ _ _).2 (.inr ⟨r,o _ r⟩),fun d i v' hm h1 h2 h3 => ?_⟩
    rcases hold d i v' hm h1 h2 with ⟨rfl,rfl⟩ | m
    ·refine Nat.le_of_not_lt fun F=>hc ⟨h3,by omega⟩
    ·exact l d i v' m h1 h2 h3
def km (A:Nat) (S:List E):Nat→Option (List UInt8)
 | 0=>jB (1,n9 (pr A 0) 0) S
 | n+1=>match jB (1,n9 (pr A (n+1)) (n+1)) S with
  | some v=>some v
  | none=>km A S n
theorem Br {A:Nat} {S:List E} {d:Int} {value:List UInt8} (h:kM A S d value) (u:A<4294967296):∀ m:Nat,d≤m→m≤32→km A S m=if d<0 then none else some value:=by
 obtain ⟨hs,-,l⟩:=h
 have hc:∀ n,pr A n<4294967296:=fun n=>Nat.lt_of_le_of_lt (He A n) u
 have i:∀ n:Nat,d<n→n≤32→jB (1,n9 (pr A n) n) S=none:=by
  intro n h1 h2
  rw [get_none]
  rintro ⟨k,v⟩ q e
  simp only at e
  subst e
  rcases l with ⟨-,-,l⟩ | ⟨b,r,-,-,l⟩
  ·exact l _ _ _ q h2 (hc n) rfl
  ·have:=l _ _ _ q h2 (hc n) rfl
   omega
 have j:∀ n:Nat,d=n→jB (1,n9 (pr A n) n) S=some value:=by
  intro n h1
  rcases l with ⟨x,-,-⟩ | ⟨b,r,-,s,-⟩
  ·omega
  ·obtain rfl:n=b:=by omega
   exact (ow hs.keys _ _).2 s
 intro m
 induction m with
 | zero =>
  intro h1 h2
  unfold km
  by_cases o:d=0
  ·rw [j 0 o,au (by omega)]
  ·rw [i 0 (by omega) h2,aD (by omega)]
 | succ m ih =>
  intro h1 h2
  unfold km
  by_cases o:d=(m+1:Nat)
  ·rw [j _ o,au (by omega)]
  ·rw [i _ (by omega) h2]
   exact ih (by omega) (by omega)
end Go.Proofs.YtkkfmkhbdoeglabGreatDoor
namespace Go.Proofs.YtkkfmkhbdoeglabGreatDoor
open Go.RowKit
def zW (w:World) (A:Nat) (S:List E) (n:Value) (wr:World):Prop :=
 Below w.heap.size w wr∧((∃ k:Nat,k≤32∧n = .int .i64 (k:Int)∧km A S 32=km A S k)∨(n = .int .i64 (-1)∧km A S 32=none))
def IY (o:Option (List UInt8)):Value:=match o with
 | some v => .tuple #[.string ⟨v.toArray⟩,.bool true]
 | none => .tuple #[.string ⟨#[]⟩,.bool false]
theorem EZ (A:Nat) (S:List E) (k:Nat):km A S k=match jB (1,n9 (pr A k) k) S with
  | some v=>some v
  | none=>if k=0 then none else km A S (k-1):=by
 cases k with
 | zero =>
  unfold km
  cases jB (1,n9 (pr A 0) 0) S <;> rfl
 | succ k =>
  rw [show km A S (k+1)=match jB (1,n9 (pr A (k+1)) (k+1)) S with | some v=>some v | none=>km A S k from rfl]
  cases jB (1,n9 (pr A (k+1)) (k+1)) S with
  | some v=>rfl
  | none=>simp
theorem zW.next {w W:World} {A k:Nat} {S:List E} (i:Below w.heap.size w W) (hk:k≤32) (b:km A S 32=km A S k) (j:jB (1,n9 (pr A k) k) S=none) (q:Nat):zW w A S (.int .i64 ((k:Int)-1)) (W.drewN q):=by
 rw [EZ A S k,j] at b
 refine ⟨i.drewN q,?_⟩
 by_cases d:k=0
 ·subst d
  exact .inr ⟨rfl,b⟩
 ·simp only [au d] at b
  exact .inl ⟨k-1,by omega,by rw [show ((k-1:Nat):Int)=(k:Int)-1 by omega],b⟩
end Go.Proofs.YtkkfmkhbdoeglabGreatDoor
namespace Go.Proofs.YtkkfmkhbdoeglabGreatDoor
open Go.RowKit
theorem zf (q:E→Bool) (p:List E) (x:E):(p++[x]).filter q=p.filter q++(if q x then [x] else []):=by
 rw [eo,List.filter_cons]
 cases q x <;> rfl
end Go.Proofs.YtkkfmkhbdoeglabGreatDoor
namespace Go.Proofs.YtkkfmkhbdoeglabGreatDoor
open Go.RowKit
theorem En (q off r:Nat) (S:List E) (t:Int) (w:World) (he:EntAt w q off r S) (hl:S.length≤1000000000) :
  Calls Tryz.prog 147 #[.pointer (some ⟨q,off,none⟩),.int .i64 t] w fun e w'=>e = .returned (.int .i64 (countS t S:Nat))∧Below w.heap.size w w':=by
 have hc:=he.cell
 obtain ⟨J,L,O,U⟩:=he.tab
 have Q:=ab U
 have HN:=ab J.nodup
 clear he J U
 go_enter Tryz.func147,Tryz.ntmps147
 go_wp2_with (first | (refine kg rfl _ rfl Tryz.underlying162 rfl O ?_;intro w0 R V aE) | fail)
 try go_frame
 go_loopw [5] (fun n wr=>∃ l:List E,gB wr r w.heap.size L (l.map zS)∧n = .int .i64 (countS t l:Nat)∧Below w.heap.size w wr) (fun _ wr=>wr.rangeLeft r w.heap.size)
 case atStart=>exact ⟨[],R,rfl,V⟩
 case round =>
  obtain ⟨l,d,rfl,u⟩:=hrel
  go_wp2_with (first | (refine kK rfl _ rfl rfl d ?_ ?_) | fail)
  ·intro W
   have X:=ab (ue t (qS (kH d.sub.2.2) HN.out (W.trans Q.out)))
   go_wp2
   go_ret
   exact ⟨by rw [X.out];rfl,u⟩
  ·intro m B v w2 Y Z C aa a0 ag a1
   obtain ⟨⟨k',I⟩,ak,e⟩:=aB.1 (Q.out.mem_iff.1 Y)
   cases e
   have s:gB w2 r w.heap.size L ((l++[((m,B),I)]).map zS):=by rw [bm];exact C
   have al:=kH s.sub.2.2
   have a2:countS t l≤1000000000:=by
    have h1:countS t l≤l.length:=List.countP_le_length
    have h2:l.length≤S.length:=rM (kH d.sub.2.2) (fun y hy=>tH (Q.out.mem_iff.1 (d.sub.1 _ (aB.2 ⟨y,hy,rfl⟩))))
    omega
   have M:=ab (uf t l ((m,B),I))
   have i:=ab s
   have a3:=u.size
   have x:Below w.heap.size w w2:=u.grown aa u.size (fun j e=>by cases e;exact af _)
   have N:=ab d
   clear C s Y Z ak d al
   unfold kU at ag
   by_cases ht:m=t
   ·subst ht
    have D:Hid (countS m (l++[((m,B),I)])=countS m l+1):=ab (by rw [M.out,aD rfl])
    go_wp2
    have b:Below w2.heap.size w2 (w2.alloc (.cells #[.int .i64 m,.string ⟨B.toArray⟩] 103)):=(Below.refl _ w2).alloc (af _) _
    have o:=i.out.frame (b.block _ i.out.lt.1) (b.block _ i.out.lt.2)
    have F:=o.left
    have G:=N.out.left
    simp only [aG,aq,ar,aJ] at F G
    exact ⟨⟨_,o,by rw [D.out];rfl,x.trans (b.mono x.size)⟩,by omega⟩
   ·have D:Hid (countS t (l++[((m,B),I)])=countS t l):=ab (by rw [M.out,au ht];rfl)
    go_wp2
    have b:Below w2.heap.size w2 (w2.alloc (.cells #[.int .i64 m,.string ⟨B.toArray⟩] 103)):=(Below.refl _ w2).alloc (af _) _
    have o:=i.out.frame (b.block _ i.out.lt.1) (b.block _ i.out.lt.2)
    have F:=o.left
    have G:=N.out.left
    simp only [aG,aq,ar,aJ] at F G
    exact ⟨⟨_,o,by rw [D.out],x.trans (b.mono x.size)⟩,by omega⟩
end Go.Proofs.YtkkfmkhbdoeglabGreatDoor
namespace Go.Proofs.YtkkfmkhbdoeglabGreatDoor
open Go.RowKit
def qo (l:List E):List E:=l.filter fun x=>x.1.1==1
theorem yh (k:List UInt8) (l:List E):jB (1,k) (qo l)=jB (1,k) l:=by
 unfold jB qo
 rw [List.find?_filter]
 congr 2
 funext x
 cases h:((1,k)==x.1) with
 | true =>
  have e:(1,k)=x.1:=a8.1 h
  rw [←e];rfl
 | false=>simp
theorem uE (A:Nat) (l:List E):∀ n,km A (qo l) n=km A l n
 | 0=>yh _ _
 | n+1=>by
  unfold km
  rw [yh,uE A l n]
theorem Gx {S:List E} {k:K} {v:List UInt8} (h:∀ x∈S,oa x.1 k=true):ke k v S=S++[(k,v)]:=by
 unfold ke
 rw [fm.2 h,eI.2 (fun x b=>by rw [lO (h x b)];decide)]
theorem kM.next {A:Nat} {l:List E} {k:Nat} {i:Int} {value:List UInt8} {a b c d e:UInt8} {v:List UInt8} (hs:SortedE l) (hk:k<l.length) (o:l[k]=((1,[a,b,c,d,e]),v)) (h:kM A (qo (l.take k)) i value) (u:A<4294967296) (q:e.toNat≤32) (j:[a,b,c,d,e]=n9 (lW a b c d) e.toNat) (_hN:lW a b c d<4294967296) :
  kM A (qo (l.take (k+1))) (if pr A e.toNat=lW a b c d∧i<e.toNat then (e.toNat:Int) else i) (if pr A e.toNat=lW a b c d∧i<e.toNat then v else value):=by
 have m:∀ x∈qo (l.take k),oa x.1 l[k].1=true:=by
  intro x o
  have y:l.take (k+1)=l.take k++[l[k]]:=aT hk
  have r:SortedE (l.take k++[l[k]]):=by rw [←y];exact hs.sublist (List.take_sublist _ _)
  exact (dS.1 r).2.2 x (ch.1 o).1 _ (by simp)
 have B:qo (l.take (k+1))=qo (l.take k)++[l[k]]:=by
  unfold qo
  rw [aT hk,zf,o]
  rfl
 rw [B]
 rw [o] at m⊢
 have h2:=h.step (v:=v) u q _hN (fun x s e=>by
  have:=m x s
  rw [e,←j] at this
  exact rO this rfl)
 rw [←j,Gx m] at h2
 exact h2
def Ec (w:World) (A:Nat) (l:List E) (bv vv i:Value) (wr:World):Prop :=
 ∃ k,k≤l.length∧i = .int .i64 (k:Int)∧∃ (b:Int) (value:List UInt8),bv = .int .i64 b∧vv = .string ⟨value.toArray⟩∧kM A (qo (l.take k)) b value∧∃ q,wr=w.drewN q
theorem kM.bounds {A:Nat} {S:List E} {d:Int} {value:List UInt8} (h:kM A S d value) : -1≤d∧d≤32∧(d<0→value=[]):=by
 obtain ⟨-,-,⟨rfl,rfl,-⟩ | ⟨b,rfl,i,-⟩⟩:=h
 ·exact ⟨by omega,by omega,fun _=>rfl⟩
 ·exact ⟨by omega,by omega,fun h=>by omega⟩
theorem Ec.done {A:Nat} {l:List E} {b:Int} {value:List UInt8} (h:kM A (qo l) b value) (i:A<4294967296):IY (km A l 32) = .tuple #[.string ⟨value.toArray⟩,.bool (decide (0≤b))]:=by
 have j:=h.bounds
 rw [←uE,Br h i 32 (by omega) (af _)]
 by_cases d:b<0
 ·rw [aD d,j.2.2 d,bY (by omega)]
  rfl
 ·rw [au d,cK (by omega)]
  rfl
end Go.Proofs.YtkkfmkhbdoeglabGreatDoor
