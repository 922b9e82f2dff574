/- A part of what is proved here: lemmas and contracts of single functions. No condition but those that each names. -/
import Derived.Test.YtkkfmkhbdoeglaaGreatDoorG00
import Derived.Test.YtkkfmkhbdoeglaaGreatDoorG02
import Derived.Test.YtkkfmkhbdoeglaaGreatDoorG05
import Derived.Test.YtkkfmkhbdoeglaaGreatDoorG07
import Derived.Test.YtkkfmkhbdoeglaaGreatDoorG09
import Derived.Test.YtkkfmkhbdoeglaaGreatDoorG10
set_option maxHeartbeats 1000000
set_option maxRecDepth 100000
namespace Go.Proofs.YtkkfmkhbdoeglaaGreatDoor
open Go.RowKit Go.Shelf
attribute [local go_sem] Oper.semAt_some
structure lz (r:Nat) (W W':World):Prop where
 size:W.heap.size≤W'.heap.size
 map:W'.heap[r]?=W.heap[r]?
 iters:∀ (k:Nat) (m:Option Nat) (a:Nat) (b:Array Nat) (c:Nat),W.heap[k]?=some (.mapIter m a b c)→W'.heap[k]?=some (.mapIter m a b c)
theorem lz.refl {r:Nat} (W:World):lz r W W:=⟨ah _,rfl,fun _ _ _ _ _ h=>h⟩
theorem lz.trans {r:Nat} {A B C:World} (h:lz r A B) (k:lz r B C):lz r A C:=⟨aI h.size k.size,k.map.trans h.map,fun i m a b c d=>k.iters i m a b c (h.iters i m a b c d)⟩
theorem lz.gw {r:Nat} {W W':World} (h:Below W.heap.size W W') (d:r<W.heap.size):lz r W W':=⟨h.size,h.block r d,fun k _m _a _b _c hk=>(h.block k (fI hk)).trans hk⟩
theorem lz.FC {r j:Nat} {W W':World} (h:W.grownBy W' (some j)) (d:r<W.heap.size) (i:j≠r) (l:∀ m a b c,W.heap[j]?≠some (.mapIter m a b c)):lz r W W' :=
 ⟨h.size,h.block r d (fun e=>i (by cases e;rfl)),fun k m a b c hk=>(h.block k (fI hk) (fun e=>by cases e;exact l m a b c hk)).trans hk⟩
theorem gm.Ee {w w':World} {r q:Nat} {l pre:List (K×Value)} (h:gm w r q l pre) (hk:lz r w w'):gm w' r q l pre:=by
 obtain ⟨zs,d,clock,since,c0,h1,h2,i,b,rest⟩:=h
 exact ⟨zs,d,clock,since,c0,h1,h2,hk.map.trans i,hk.iters q _ _ _ _ b,rest⟩
theorem BI (h:Nat) (w:World):Calls Tryz.prog 205 #[.agg #[.pointer (some ⟨h,0,none⟩)]] w fun e w' =>
  e = .returned (.func (.func 208) #[] #[.pointer (some ⟨w.heap.size,0,none⟩)])∧w'=w.alloc (.cells #[.pointer (some ⟨h,0,none⟩)] 189):=by
 go_enter Tryz.func205,Tryz.ntmps205
 go_wp2
 go_ret
 exact ⟨rfl,rfl⟩
theorem BJ (n:Nat) (hn:1≤n) (o h:Nat) (x:HV) (S:List E) (w:World) (Y:o<w.heap.size) (hm:w.cell? ⟨o,0,none⟩=some (.pointer (some ⟨h,0,none⟩))) (M:HostIs w h x) (Z:TabAt w x.r S) :
  SeqStopsK Fence.wide n Tryz.prog 208 #[.pointer (some ⟨o,0,none⟩)] (fun x:E=>#[kV x.1,.string ⟨x.2.toArray⟩]) (lz x.r) (fun xs=>xs.Perm S) (fun _=>True) S.length w:=by
 intro l J Jx W N C bc hY h0
 obtain ⟨r,O⟩:∃ r,r=x.r:=⟨_,rfl⟩
 rw [←O] at hY
 have i:=M.fW (N.block _ M.lt)
 unfold HostIs HV.cells at i
 have F:=af _ _ 10 _ _ _ i
 simp only [bR,aY,bE] at F
 rw [←O] at F Z
 obtain ⟨G,L,q,Q⟩:=Z
 have D:fS W r L:=q.fW (N.block _ q.lt)
 have bi:W.cell? ⟨o,0,none⟩=some (.pointer (some ⟨h,0,none⟩)):=(N.cell (p:=⟨o,0,none⟩) Y).trans hm
 have hlen:L.length=S.length:=by rw [Q.length_eq,aH]
 have HP:=ae Q
 have HN:=ae G.nodup
 have bk:=fI i
 clear M i O hm G Q
 refine callsIn_of_wp Tryz.func208 rfl cM ?_ rfl
 try simp only [Tryz.ntmps208,dF,au,aJ,Nat.reduceAdd,Nat.reduceSub,bd,bu,bV,dG,aQ,aX]
 gi_wp2_with (first
  | (gi_at_range;refine oe rfl _ rfl Tryz.underlying85 rfl D ?_;intro w0 R b bl)
  | gi_in)
 try go_frame
 gi_loopw [3,4] (fun _ _ wr=>∃ pre:List E,gm wr r W.heap.size L (pre.map zS)∧J pre wr) (fun _ _ wr=>wr.rangeLeft r W.heap.size)
 case atStart =>
  exact ⟨[],R,C [] W w0 none h0 ⟨b.os,b.tape,b.output,b.size,fun k hk _=>b.block k hk⟩ (fun r e=>by cases e)⟩
 case round =>
  obtain ⟨pre,j,I⟩:=hrel
  gi_wp2_with (first
   | (gi_at_next;refine oN rfl _ rfl rfl j ?_ ?_)
   | gi_in)
  ·intro ag
   have ak:=ae (qO (ky j.sub.2.2) HN.out (ag.trans HP.out))
   gi_wp2
   go_end0
   exact ⟨⟨_,rfl⟩,.inl ⟨_,ak.out,I⟩⟩
  ·intro s u v w2 hx bn d am ap av bo
   obtain ⟨⟨k',y⟩,aE,e⟩:=aB.1 (HP.out.mem_iff.1 hx)
   cases e
   have a0:J pre w2:=C _ wr w2 (some W.heap.size) I am (fun r e=>by cases e;exact ⟨ah _,j.iter_walk⟩)
   have a1:pre.length<S.length:=by
    have h1:=d.left
    simp at h1
    omega
   have U:J pre ((w2.alloc (.cells #[.int .i64 s,.string ⟨u.toArray⟩] 94)).alloc (.cells #[.string ⟨y.toArray⟩] 195)):=C _ _ _ none (C _ w2 _ none a0 (dH w2 _ none) (fun r e=>by cases e)) (dH _ _ none) (fun r e=>by cases e)
   have m:=(d.of_walks (KeepsWalks.alloc w2 (.cells #[.int .i64 s,.string ⟨u.toArray⟩] 94))).of_walks (KeepsWalks.alloc _ (.cells #[.string ⟨y.toArray⟩] 195))
   obtain ⟨fn,tmps,assign,body,hy,hR⟩:=hY pre ((s,u),y) ((w2.alloc (.cells #[.int .i64 s,.string ⟨u.toArray⟩] 94)).alloc (.cells #[.string ⟨y.toArray⟩] 195)) U a1
   have hle:=j.left
   have V:=d.left
   simp only [ar,au,aJ] at V
   clear ap hx aE
   unfold kV iX at hy
   unfold kP at av
   unfold kP
   have a2:=ae m
   clear m
   gi_wp2
   refine hR.mono ?_
   rintro e W3 (⟨rfl,a3,a4⟩ | ⟨rfl,X⟩)
   ·gi_wp2
    have B:gm W3 r W.heap.size L ((pre++[((s,u),y)]).map zS):=by
     rw [bC]
     exact a2.out.Ee a4
    go_roundw
    case rel=>exact ⟨_,B,a3⟩
    case measure =>
     have:=B.left
     simp only [bC,bq,du,ar,au,aJ] at this
     omega
   ·gi_wp2
    refine aK (eh rfl _ _ _) rfl ?_
    exact ⟨⟨_,rfl⟩,.inr ⟨_,cM,X⟩⟩
end Go.Proofs.YtkkfmkhbdoeglaaGreatDoor
namespace Go.Proofs.YtkkfmkhbdoeglaaGreatDoor
theorem vf (n:Nat) (i:n<4294967296):∃ a b c d,zp n=[a,b,c,d]∧lQ a b c d=n:=by
 refine ⟨_,_,_,_,rfl,?_⟩
 exact ((H9 n i _ _ _ _).1 rfl).symm
theorem ni (k:UInt8) (l:List UInt8):gX (sealB k l) = .inl (k,l):=by
 obtain ⟨a,b,c,d,h1,h2⟩:=vf (Db (k::l)) (E3 _)
 unfold sealB
 rw [h1,nh,aF h2.symm]
end Go.Proofs.YtkkfmkhbdoeglaaGreatDoor
namespace Go.Proofs.YtkkfmkhbdoeglaaGreatDoor
def I9 (N n:Nat):Nat:=N / 2^(32-n)
def o4 (N n:Nat):Nat:=I9 N n*2^(32-n)
def nK (N n:Nat):List UInt8:=zp N++[UInt8.ofNat n]
theorem Gz (N n:Nat):o4 N n≤N:=Nat.div_mul_le_self _ _
theorem Gx {M N:Nat} (hm:M<4294967296) (i:N<4294967296) (h:zp M=zp N):M=N:=by
 obtain ⟨a,b,c,d,h1,h2⟩:=vf M hm
 obtain ⟨j,l,c',d',h3,h4⟩:=vf N i
 rw [h1,h3] at h
 cases h
 exact h2.symm.trans h4
theorem Fk {M N m n:Nat} (b:M<4294967296) (d:N<4294967296) (hm:m≤32) (i:n≤32) (h:nK M m=nK N n):M=N∧m=n:=by
 unfold nK at h
 obtain ⟨h1,h2⟩:=List.append_inj h (by simp [zp])
 refine ⟨Gx b d h1,?_⟩
 have:=bB (fun l=>l.map UInt8.toNat) h2
 simp at this
 omega
def Hw (e:E):Prop:=∃ N n,n≤32∧N<4294967296∧e.1=(1,nK N n)
def kH (A:Nat) (S:List E) (d:Int) (value:List UInt8):Prop :=
 SortedE S∧(∀ e∈S,Hw e)∧((d = -1∧value=[]∧∀ N n v,((1,nK N n),v)∈S→n≤32→N<4294967296→o4 A n≠N)∨
  ∃ b:Nat,d=b∧b≤32∧((1,nK (o4 A b) b),value)∈S∧∀ N n v,((1,nK N n),v)∈S→n≤32→N<4294967296→o4 A n=N→n≤b)
theorem kH.start (A:Nat):kH A [] (-1) []:=⟨SortedE.nil,(fun _ h=>by cases h),.inl ⟨rfl,rfl,fun _ _ _ h=>by cases h⟩⟩
theorem kH.step {A:Nat} {S:List E} {j:Int} {value v:List UInt8} {N n:Nat} (h:kH A S j value) (_hA:A<4294967296) (s:n≤32) (u:N<4294967296) (o:∀ x∈S,x.1≠(1,nK N n)) :
  kH A (jJ (1,nK N n) v S) (if o4 A n=N∧j<n then (n:Int) else j) (if o4 A n=N∧j<n then v else value):=by
 obtain ⟨hs,C,l⟩:=h
 refine ⟨sorted_put _ _ hs,fun e he => ?_,?_⟩
 ·rcases (jn _ _ _ _).1 he with rfl | ⟨h1,-⟩
  ·exact ⟨N,n,s,u,rfl⟩
  ·exact C e h1
 ·have hold:∀ d i v',((1,nK d i),v')∈jJ (1,nK N n) v S→i≤32→d<4294967296→(d=N∧i=n)∨((1,nK d i),v')∈S:=by
   intro d i v' hm h1 h2
   rcases (jn _ _ _ _).1 hm with e | ⟨h3,-⟩
   ·have:=bB (fun x:E=>x.1.2) e
    exact .inl (Fk h2 u h1 s this)
   ·exact .inr h3
  by_cases hc:o4 A n=N∧j<n
  ·rw [aF hc,aF hc]
   refine .inr ⟨n,rfl,s,(jn _ _ _ _).2 (.inl (by rw [hc.1])),fun d i v' hm h1 h2 h3 => ?_⟩
   rcases hold d i v' hm h1 h2 with ⟨-,rfl⟩ | m
   ·exact ah _
   ·rcases l with ⟨-,-,l⟩ | ⟨b,q,-,-,l⟩
    ·exact absurd h3 (l d i v' m h1 h2)
    ·have:=l d i v' m h1 h2 h3
     have:=hc.2
     omega
  ·rw [aw hc,aw hc]
   rcases l with ⟨y,D,l⟩ | ⟨b,q,B,r,l⟩
   ·refine .inl ⟨y,D,fun d i v' hm h1 h2 h3 => ?_⟩
    rcases hold d i v' hm h1 h2 with ⟨rfl,rfl⟩ | m
    ·exact hc ⟨h3,by omega⟩
    ·exact l d i v' m h1 h2 h3
   ·refine .inr ⟨b,q,B,(jn _ _ _ _).2 (.inr ⟨r,o _ r⟩),fun d i v' hm h1 h2 h3 => ?_⟩
    rcases hold d i v' hm h1 h2 with ⟨rfl,rfl⟩ | m
    ·refine Nat.le_of_not_lt fun F=>hc ⟨h3,by omega⟩
    ·exact l d i v' m h1 h2 h3
def j9 (A:Nat) (S:List E):Nat→Option (List UInt8)
 | 0=>jq (1,nK (o4 A 0) 0) S
 | n+1=>match jq (1,nK (o4 A (n+1)) (n+1)) S with
  | some v=>some v
  | none=>j9 A S n
theorem AK {A:Nat} {S:List E} {d:Int} {value:List UInt8} (h:kH A S d value) (u:A<4294967296):∀ m:Nat,d≤m→m≤32→j9 A S m=if d<0 then none else some value:=by
 obtain ⟨hs,-,l⟩:=h
 have hc:∀ n,o4 A n<4294967296:=fun n=>Nat.lt_of_le_of_lt (Gz A n) u
 have i:∀ n:Nat,d<n→n≤32→jq (1,nK (o4 A n) n) S=none:=by
  intro n h1 h2
  rw [get_none]
  rintro ⟨k,v⟩ q e
  simp only at e
  subst e
  rcases l with ⟨-,-,l⟩ | ⟨b,r,-,-,l⟩
  ·exact l _ _ _ q h2 (hc n) rfl
  ·have:=l _ _ _ q h2 (hc n) rfl
   omega
 have j:∀ n:Nat,d=n→jq (1,nK (o4 A n) n) S=some value:=by
  intro n h1
  rcases l with ⟨x,-,-⟩ | ⟨b,r,-,s,-⟩
  ·omega
  ·obtain rfl:n=b:=by omega
   exact (nS hs.keys _ _).2 s
 intro m
 induction m with
 | zero =>
  intro h1 h2
  unfold j9
  by_cases o:d=0
  ·rw [j 0 o,aw (by omega)]
  ·rw [i 0 (by omega) h2,aF (by omega)]
 | succ m ih =>
  intro h1 h2
  unfold j9
  by_cases o:d=(m+1:Nat)
  ·rw [j _ o,aw (by omega)]
  ·rw [i _ (by omega) h2]
   exact ih (by omega) (by omega)
end Go.Proofs.YtkkfmkhbdoeglaaGreatDoor
namespace Go.Proofs.YtkkfmkhbdoeglaaGreatDoor
open Go.RowKit
def zw (w:World) (A:Nat) (S:List E) (n:Value) (wr:World):Prop :=
 Below w.heap.size w wr∧((∃ k:Nat,k≤32∧n = .int .i64 (k:Int)∧j9 A S 32=j9 A S k)∨(n = .int .i64 (-1)∧j9 A S 32=none))
def Iv (o:Option (List UInt8)):Value:=match o with
 | some v => .tuple #[.string ⟨v.toArray⟩,.bool true]
 | none => .tuple #[.string ⟨#[]⟩,.bool false]
theorem Ek (A:Nat) (S:List E) (k:Nat):j9 A S k=match jq (1,nK (o4 A k) k) S with
  | some v=>some v
  | none=>if k=0 then none else j9 A S (k-1):=by
 cases k with
 | zero =>
  unfold j9
  cases jq (1,nK (o4 A 0) 0) S <;> rfl
 | succ k =>
  rw [show j9 A S (k+1)=match jq (1,nK (o4 A (k+1)) (k+1)) S with | some v=>some v | none=>j9 A S k from rfl]
  cases jq (1,nK (o4 A (k+1)) (k+1)) S with
  | some v=>rfl
  | none=>simp
theorem zw.next {w W:World} {A k:Nat} {S:List E} (i:Below w.heap.size w W) (hk:k≤32) (b:j9 A S 32=j9 A S k) (j:jq (1,nK (o4 A k) k) S=none) (q:Nat):zw w A S (.int .i64 ((k:Int)-1)) (W.drewN q):=by
 rw [Ek A S k,j] at b
 refine ⟨i.drewN q,?_⟩
 by_cases d:k=0
 ·subst d
  exact .inr ⟨rfl,b⟩
 ·simp only [aw d] at b
  exact .inl ⟨k-1,by omega,by rw [show ((k-1:Nat):Int)=(k:Int)-1 by omega],b⟩
end Go.Proofs.YtkkfmkhbdoeglaaGreatDoor
