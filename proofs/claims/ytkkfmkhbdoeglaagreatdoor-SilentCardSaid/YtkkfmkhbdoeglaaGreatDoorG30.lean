/- A part of what is proved here: lemmas and contracts of single functions. No condition but those that each names. -/
import Derived.Test.YtkkfmkhbdoeglaaGreatDoorG00
import Derived.Test.YtkkfmkhbdoeglaaGreatDoorG02
import Derived.Test.YtkkfmkhbdoeglaaGreatDoorG04
import Derived.Test.YtkkfmkhbdoeglaaGreatDoorG07
import Derived.Test.YtkkfmkhbdoeglaaGreatDoorG09
import Derived.Test.YtkkfmkhbdoeglaaGreatDoorG11
set_option maxHeartbeats 1000000
set_option maxRecDepth 100000
namespace Go.Proofs.YtkkfmkhbdoeglaaGreatDoor
open Go.RowKit Go.Shelf
attribute [local go_sem] Oper.semAt_some
structure kI (r:Nat) (W W':World):Prop where
 size:W.heap.size≤W'.heap.size
 map:W'.heap[r]?=W.heap[r]?
 iters:∀ (k:Nat) (m:Option Nat) (a:Nat) (b:Array Nat) (c:Nat),W.heap[k]?=some (.mapIter m a b c)→W'.heap[k]?=some (.mapIter m a b c)
theorem kI.refl {r:Nat} (W:World):kI r W W:=⟨af _,rfl,fun _ _ _ _ _ h=>h⟩
theorem kI.trans {r:Nat} {A B C:World} (h:kI r A B) (k:kI r B C):kI r A C:=⟨aH h.size k.size,k.map.trans h.map,fun i m a b c d=>k.iters i m a b c (h.iters i m a b c d)⟩
theorem kI.fS {r:Nat} {W W':World} (h:Below W.heap.size W W') (d:r<W.heap.size):kI r W W':=⟨h.size,h.block r d,fun k m a b _c hk=>(h.block k (fw hk)).trans hk⟩
theorem kI.Ev {r j:Nat} {W W':World} (h:W.grownBy W' (some j)) (d:r<W.heap.size) (i:j≠r) (l:∀ m a b c,W.heap[j]?≠some (.mapIter m a b c)):kI r W W' :=
 ⟨h.size,h.block r d (fun e=>i (by cases e;rfl)),fun k m a b c hk=>(h.block k (fw hk) (fun e=>by cases e;exact l m a b c hk)).trans hk⟩
theorem fU.CU {w w':World} {r q:Nat} {l pre:List (K×Value)} (h:fU w r q l pre) (hk:kI r w w'):fU w' r q l pre:=by
 obtain ⟨zs,d,clock,since,c0,h1,h2,i,b,rest⟩:=h
 exact ⟨zs,d,clock,since,c0,h1,h2,hk.map.trans i,hk.iters q _ _ _ _ b,rest⟩
theorem Aj (h:Nat) (w:World):Calls Tryz.prog 205 #[.agg #[.pointer (some ⟨h,0,none⟩)]] w fun e w' =>
  e = .returned (.func (.func 208) #[] #[.pointer (some ⟨w.heap.size,0,none⟩)])∧w'=w.alloc (.cells #[.pointer (some ⟨h,0,none⟩)] 189):=by
 go_enter Tryz.func205,Tryz.ntmps205
 go_wp2
 go_ret
 exact ⟨rfl,rfl⟩
theorem AM (n:Nat) (hn:1≤n) (o h:Nat) (x:HV) (S:List E) (w:World) (Y:o<w.heap.size) (hm:w.cell? ⟨o,0,none⟩=some (.pointer (some ⟨h,0,none⟩))) (M:HostIs w h x) (Z:TabAt w x.r S) :
  SeqStopsK Fence.wide n Tryz.prog 208 #[.pointer (some ⟨o,0,none⟩)] (fun x:E=>#[kV x.1,.string ⟨x.2.toArray⟩]) (kI x.r) (fun xs=>xs.Perm S) (fun _=>True) S.length w:=by
 intro l J Jx W N C bd hY h0
 obtain ⟨r,O⟩:∃ r,r=x.r:=⟨_,rfl⟩
 rw [←O] at hY
 have i:=M.fP (N.block _ M.lt)
 unfold HostIs HV.cells at i
 have F:=ae _ _ 10 _ _ _ i
 simp only [bR,aX,bB] at F
 rw [←O] at F Z
 obtain ⟨G,L,q,Q⟩:=Z
 have D:fF W r L:=q.fP (N.block _ q.lt)
 have bi:W.cell? ⟨o,0,none⟩=some (.pointer (some ⟨h,0,none⟩)):=(N.cell (p:=⟨o,0,none⟩) Y).trans hm
 have hlen:L.length=S.length:=by rw [Q.length_eq,aG]
 have HP:=ab Q
 have HN:=ab G.nodup
 have bk:=fw i
 clear M i O hm G Q
 refine callsIn_of_wp Tryz.func208 rfl cI ?_ rfl
 try simp only [Tryz.ntmps208,dy,ar,aM,Nat.reduceAdd,Nat.reduceSub,aZ,bm,bJ,dB,aO,aV]
 gi_wp2_with (first
  | (gi_at_range;refine mV rfl _ rfl Tryz.underlying85 rfl D ?_;intro w0 R b bl)
  | gi_in)
 try go_frame
 gi_loopw [3,4] (fun _ _ wr=>∃ pre:List E,fU wr r W.heap.size L (pre.map zS)∧J pre wr) (fun _ _ wr=>wr.rangeLeft r W.heap.size)
 case atStart =>
  exact ⟨[],R,C [] W w0 none h0 ⟨b.os,b.tape,b.output,b.size,fun k hk _=>b.block k hk⟩ (fun r e=>by cases e)⟩
 case round =>
  obtain ⟨pre,j,I⟩:=hrel
  gi_wp2_with (first
   | (gi_at_next;refine nR rfl _ rfl rfl j ?_ ?_)
   | gi_in)
  ·intro ak
   have al:=ab (qR (k9 j.sub.2.2) HN.out (ak.trans HP.out))
   gi_wp2
   go_end0
   exact ⟨⟨_,rfl⟩,.inl ⟨_,al.out,I⟩⟩
  ·intro s u v w2 hx bn d ap av aE bo
   obtain ⟨⟨k',y⟩,a0,e⟩:=az.1 (HP.out.mem_iff.1 hx)
   cases e
   have a1:J pre w2:=C _ wr w2 (some W.heap.size) I ap (fun r e=>by cases e;exact ⟨af _,j.iter_walk⟩)
   have a2:pre.length<S.length:=by
    have h1:=d.left
    simp at h1
    omega
   have U:J pre ((w2.alloc (.cells #[.int .i64 s,.string ⟨u.toArray⟩] 94)).alloc (.cells #[.string ⟨y.toArray⟩] 195)):=C _ _ _ none (C _ w2 _ none a1 (dC w2 _ none) (fun r e=>by cases e)) (dC _ _ none) (fun r e=>by cases e)
   have m:=(d.of_walks (KeepsWalks.alloc w2 (.cells #[.int .i64 s,.string ⟨u.toArray⟩] 94))).of_walks (KeepsWalks.alloc _ (.cells #[.string ⟨y.toArray⟩] 195))
   obtain ⟨fn,tmps,assign,body,hy,hR⟩:=hY pre ((s,u),y) ((w2.alloc (.cells #[.int .i64 s,.string ⟨u.toArray⟩] 94)).alloc (.cells #[.string ⟨y.toArray⟩] 195)) U a2
   have hle:=j.left
   have V:=d.left
   simp only [aq,ar,aM] at V
   clear av hx a0
   unfold kV iD at hy
   unfold kc at aE
   unfold kc
   have a3:=ab m
   clear m
   gi_wp2
   refine hR.mono ?_
   rintro e W3 (⟨rfl,a4,a5⟩ | ⟨rfl,X⟩)
   ·gi_wp2
    have B:fU W3 r W.heap.size L ((pre++[((s,u),y)]).map zS):=by
     rw [bA]
     exact a3.out.CU a5
    go_roundw
    case rel=>exact ⟨_,B,a4⟩
    case measure =>
     have:=B.left
     simp only [bA,bg,di,aq,ar,aM] at this
     omega
   ·gi_wp2
    refine aI (dA rfl _ _ _) rfl ?_
    exact ⟨⟨_,rfl⟩,.inr ⟨_,cI,X⟩⟩
end Go.Proofs.YtkkfmkhbdoeglaaGreatDoor
namespace Go.Proofs.YtkkfmkhbdoeglaaGreatDoor
theorem uA (n:Nat) (i:n<4294967296):∃ a b c d,xX n=[a,b,c,d]∧kP a b c d=n:=by
 refine ⟨_,_,_,_,rfl,?_⟩
 exact ((F8 n i _ _ _ _).1 rfl).symm
theorem qN (k:UInt8) (l:List UInt8):gJ (sealB k l) = .inl (k,l):=by
 obtain ⟨a,b,c,d,h1,h2⟩:=uA (BS (k::l)) (EY _)
 unfold sealB
 rw [h1,ml,aB h2.symm]
end Go.Proofs.YtkkfmkhbdoeglaaGreatDoor
namespace Go.Proofs.YtkkfmkhbdoeglaaGreatDoor
def G9 (N n:Nat):Nat:=N / 2^(32-n)
def oy (N n:Nat):Nat:=G9 N n*2^(32-n)
def mT (N n:Nat):List UInt8:=xX N++[UInt8.ofNat n]
theorem FF (N n:Nat):oy N n≤N:=Nat.div_mul_le_self _ _
theorem Fj {M N:Nat} (hm:M<4294967296) (i:N<4294967296) (h:xX M=xX N):M=N:=by
 obtain ⟨a,b,c,d,h1,h2⟩:=uA M hm
 obtain ⟨j,l,c',d',h3,h4⟩:=uA N i
 rw [h1,h3] at h
 cases h
 exact h2.symm.trans h4
theorem Ex {M N m n:Nat} (b:M<4294967296) (d:N<4294967296) (hm:m≤32) (i:n≤32) (h:mT M m=mT N n):M=N∧m=n:=by
 unfold mT at h
 obtain ⟨h1,h2⟩:=List.append_inj h (by simp [xX])
 refine ⟨Fj b d h1,?_⟩
 have:=bG (fun l=>l.map UInt8.toNat) h2
 simp at this
 omega
def Gy (e:E):Prop:=∃ N n,n≤32∧N<4294967296∧e.1=(1,mT N n)
def j5 (A:Nat) (S:List E) (d:Int) (value:List UInt8):Prop :=
 SortedE S∧(∀ e∈S,Gy e)∧((d = -1∧value=[]∧∀ N n v,((1,mT N n),v)∈S→n≤32→N<4294967296→oy A n≠N)∨
  ∃ b:Nat,d=b∧b≤32∧((1,mT (oy A b) b),value)∈S∧∀ N n v,((1,mT N n),v)∈S→n≤32→N<4294967296→oy A n=N→n≤b)
theorem j5.start (A:Nat):j5 A [] (-1) []:=⟨SortedE.nil,(fun _ h=>by cases h),.inl ⟨rfl,rfl,fun _ _ _ h=>by cases h⟩⟩
theorem j5.step {A:Nat} {S:List E} {j:Int} {value v:List UInt8} {N n:Nat} (h:j5 A S j value) (_hA:A<4294967296) (s:n≤32) (u:N<4294967296) (o:∀ x∈S,x.1≠(1,mT N n)) :
  j5 A (jS (1,mT N n) v S) (if oy A n=N∧j<n then (n:Int) else j) (if oy A n=N∧j<n then v else value):=by
 obtain ⟨hs,C,l⟩:=h
 refine ⟨sorted_put _ _ hs,fun e he => ?_,?_⟩
 ·rcases (iY _ _ _ _).1 he with rfl | ⟨h1,-⟩
  ·exact ⟨N,n,s,u,rfl⟩
  ·exact C e h1
 ·have hold:∀ d i v',((1,mT d i),v')∈jS (1,mT N n) v S→i≤32→d<4294967296→(d=N∧i=n)∨((1,mT d i),v')∈S:=by
   intro d i v' hm h1 h2
   rcases (iY _ _ _ _).1 hm with e | ⟨h3,-⟩
   ·have:=bG (fun x:E=>x.1.2) e
    exact .inl (Ex h2 u h1 s this)
   ·exact .inr h3
  by_cases hc:oy A n=N∧j<n
  ·rw [aB hc,aB hc]
   refine .inr ⟨n,rfl,s,(iY _ _ _ _).2 (.inl (by rw [hc.1])),fun d i v' hm h1 h2 h3 => ?_⟩
   rcases hold d i v' hm h1 h2 with ⟨-,rfl⟩ | m
   ·exact af _
   ·rcases l with ⟨-,-,l⟩ | ⟨b,q,-,-,l⟩
    ·exact absurd h3 (l d i v' m h1 h2)
    ·have:=l d i v' m h1 h2 h3
     have:=hc.2
     omega
  ·rw [au hc,au hc]
   rcases l with ⟨y,D,l⟩ | ⟨b,q,B,r,l⟩
   ·refine .inl ⟨y,D,fun d i v' hm h1 h2 h3 => ?_⟩
    rcases hold d i v' hm h1 h2 with ⟨rfl,rfl⟩ | m
    ·exact hc ⟨h3,by omega⟩
    ·exact l d i v' m h1 h2 h3
   ·refine .inr ⟨b,q,B,(iY _ _ _ _).2 (.inr ⟨r,o _ r⟩),fun d i v' hm h1 h2 h3 => ?_⟩
    rcases hold d i v' hm h1 h2 with ⟨rfl,rfl⟩ | m
    ·refine Nat.le_of_not_lt fun F=>hc ⟨h3,by omega⟩
    ·exact l d i v' m h1 h2 h3
def jI (A:Nat) (S:List E):Nat→Option (List UInt8)
 | 0=>jb (1,mT (oy A 0) 0) S
 | n+1=>match jb (1,mT (oy A (n+1)) (n+1)) S with
  | some v=>some v
  | none=>jI A S n
theorem ym {A:Nat} {S:List E} {d:Int} {value:List UInt8} (h:j5 A S d value) (u:A<4294967296):∀ m:Nat,d≤m→m≤32→jI A S m=if d<0 then none else some value:=by
 obtain ⟨hs,-,l⟩:=h
 have hc:∀ n,oy A n<4294967296:=fun n=>Nat.lt_of_le_of_lt (FF A n) u
 have i:∀ n:Nat,d<n→n≤32→jb (1,mT (oy A n) n) S=none:=by
  intro n h1 h2
  rw [get_none]
  rintro ⟨k,v⟩ q e
  simp only at e
  subst e
  rcases l with ⟨-,-,l⟩ | ⟨b,r,-,-,l⟩
  ·exact l _ _ _ q h2 (hc n) rfl
  ·have:=l _ _ _ q h2 (hc n) rfl
   omega
 have j:∀ n:Nat,d=n→jb (1,mT (oy A n) n) S=some value:=by
  intro n h1
  rcases l with ⟨x,-,-⟩ | ⟨b,r,-,s,-⟩
  ·omega
  ·obtain rfl:n=b:=by omega
   exact (nj hs.keys _ _).2 s
 intro m
 induction m with
 | zero =>
  intro h1 h2
  unfold jI
  by_cases o:d=0
  ·rw [j 0 o,au (by omega)]
  ·rw [i 0 (by omega) h2,aB (by omega)]
 | succ m ih =>
  intro h1 h2
  unfold jI
  by_cases o:d=(m+1:Nat)
  ·rw [j _ o,au (by omega)]
  ·rw [i _ (by omega) h2]
   exact ih (by omega) (by omega)
end Go.Proofs.YtkkfmkhbdoeglaaGreatDoor
namespace Go.Proofs.YtkkfmkhbdoeglaaGreatDoor
open Go.RowKit
def zi (w:World) (A:Nat) (S:List E) (n:Value) (wr:World):Prop :=
 Below w.heap.size w wr∧((∃ k:Nat,k≤32∧n = .int .i64 (k:Int)∧jI A S 32=jI A S k)∨(n = .int .i64 (-1)∧jI A S 32=none))
def F6 (o:Option (List UInt8)):Value:=match o with
 | some v => .tuple #[.string ⟨v.toArray⟩,.bool true]
 | none => .tuple #[.string ⟨#[]⟩,.bool false]
theorem Co (A:Nat) (S:List E) (k:Nat):jI A S k=match jb (1,mT (oy A k) k) S with
  | some v=>some v
  | none=>if k=0 then none else jI A S (k-1):=by
 cases k with
 | zero =>
  unfold jI
  cases jb (1,mT (oy A 0) 0) S <;> rfl
 | succ k =>
  rw [show jI A S (k+1)=match jb (1,mT (oy A (k+1)) (k+1)) S with | some v=>some v | none=>jI A S k from rfl]
  cases jb (1,mT (oy A (k+1)) (k+1)) S with
  | some v=>rfl
  | none=>simp
theorem zi.next {w W:World} {A k:Nat} {S:List E} (i:Below w.heap.size w W) (hk:k≤32) (b:jI A S 32=jI A S k) (j:jb (1,mT (oy A k) k) S=none) (q:Nat):zi w A S (.int .i64 ((k:Int)-1)) (W.drewN q):=by
 rw [Co A S k,j] at b
 refine ⟨i.drewN q,?_⟩
 by_cases d:k=0
 ·subst d
  exact .inr ⟨rfl,b⟩
 ·simp only [au d] at b
  exact .inl ⟨k-1,by omega,by rw [show ((k-1:Nat):Int)=(k:Int)-1 by omega],b⟩
end Go.Proofs.YtkkfmkhbdoeglaaGreatDoor
