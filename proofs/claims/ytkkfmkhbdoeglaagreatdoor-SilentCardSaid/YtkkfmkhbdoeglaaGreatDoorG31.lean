/- A part of what is proved here: lemmas and contracts of single functions. No condition but those that each names. -/
import Derived.Test.YtkkfmkhbdoeglaaGreatDoorG00
import Derived.Test.YtkkfmkhbdoeglaaGreatDoorG02
import Derived.Test.YtkkfmkhbdoeglaaGreatDoorG04
import Derived.Test.YtkkfmkhbdoeglaaGreatDoorG13
import Derived.Test.YtkkfmkhbdoeglaaGreatDoorG16
import Derived.Test.YtkkfmkhbdoeglaaGreatDoorG17
import Derived.Test.YtkkfmkhbdoeglaaGreatDoorG28
import Derived.Test.YtkkfmkhbdoeglaaGreatDoorG30
set_option maxHeartbeats 1000000
set_option maxRecDepth 100000
namespace Go.Proofs.YtkkfmkhbdoeglaaGreatDoor
open Go.RowKit
theorem wR (q:E→Bool) (p:List E) (x:E):(p++[x]).filter q=p.filter q++(if q x then [x] else []):=by
 rw [eZ,List.filter_cons]
 cases q x <;> rfl
end Go.Proofs.YtkkfmkhbdoeglaaGreatDoor
namespace Go.Proofs.YtkkfmkhbdoeglaaGreatDoor
open Go.RowKit
theorem Dq (q off r:Nat) (S:List E) (t:Int) (w:World) (he:EntAt w q off r S) (hl:S.length≤1000000000) :
  Calls Tryz.prog 106 #[.pointer (some ⟨q,off,none⟩),.int .i64 t] w fun e w'=>e = .returned (.int .i64 (countS t S:Nat))∧Below w.heap.size w w':=by
 have hc:=he.cell
 obtain ⟨J,L,O,U⟩:=he.tab
 have Q:=ab U
 have HN:=ab J.nodup
 clear he J U
 go_enter Tryz.func106,Tryz.ntmps106
 go_wp2_with (first | (refine kv rfl _ rfl Tryz.underlying107 rfl O ?_;intro w0 R V aE) | fail)
 try go_frame
 go_loopw [5] (fun n wr=>∃ l:List E,fU wr r w.heap.size L (l.map zS)∧n = .int .i64 (countS t l:Nat)∧Below w.heap.size w wr) (fun _ wr=>wr.rangeLeft r w.heap.size)
 case atStart=>exact ⟨[],R,rfl,V⟩
 case round =>
  obtain ⟨l,d,rfl,u⟩:=hrel
  go_wp2_with (first | (refine kZ rfl _ rfl rfl d ?_ ?_) | fail)
  ·intro W
   have X:=ab (sw t (qR (k9 d.sub.2.2) HN.out (W.trans Q.out)))
   go_wp2
   go_ret
   exact ⟨by rw [X.out];rfl,u⟩
  ·intro m B v w2 Y Z C aa a0 ag a1
   obtain ⟨⟨k',I⟩,ak,e⟩:=az.1 (Q.out.mem_iff.1 Y)
   cases e
   have s:fU w2 r w.heap.size L ((l++[((m,B),I)]).map zS):=by rw [bA];exact C
   have al:=k9 s.sub.2.2
   have a2:countS t l≤1000000000:=by
    have h1:countS t l≤l.length:=List.countP_le_length
    have h2:l.length≤S.length:=uq (k9 d.sub.2.2) (fun y hy=>uY (Q.out.mem_iff.1 (d.sub.1 _ (az.2 ⟨y,hy,rfl⟩))))
    omega
   have M:=ab (rY t l ((m,B),I))
   have i:=ab s
   have a3:=u.size
   have x:Below w.heap.size w w2:=u.grown aa u.size (fun j e=>by cases e;exact af _)
   have N:=ab d
   clear C s Y Z ak d al
   unfold kc at ag
   by_cases ht:m=t
   ·subst ht
    have D:Hid (countS m (l++[((m,B),I)])=countS m l+1):=ab (by rw [M.out,aB rfl])
    go_wp2
    have b:Below w2.heap.size w2 (w2.alloc (.cells #[.int .i64 m,.string ⟨B.toArray⟩] 94)):=(Below.refl _ w2).alloc (af _) _
    have o:=i.out.frame (b.block _ i.out.lt.1) (b.block _ i.out.lt.2)
    have F:=o.left
    have G:=N.out.left
    simp only [aG,aq,ar,aM] at F G
    exact ⟨⟨_,o,by rw [D.out];rfl,x.trans (b.mono x.size)⟩,by omega⟩
   ·have D:Hid (countS t (l++[((m,B),I)])=countS t l):=ab (by rw [M.out,au ht];rfl)
    go_wp2
    have b:Below w2.heap.size w2 (w2.alloc (.cells #[.int .i64 m,.string ⟨B.toArray⟩] 94)):=(Below.refl _ w2).alloc (af _) _
    have o:=i.out.frame (b.block _ i.out.lt.1) (b.block _ i.out.lt.2)
    have F:=o.left
    have G:=N.out.left
    simp only [aG,aq,ar,aM] at F G
    exact ⟨⟨_,o,by rw [D.out],x.trans (b.mono x.size)⟩,by omega⟩
end Go.Proofs.YtkkfmkhbdoeglaaGreatDoor
namespace Go.Proofs.YtkkfmkhbdoeglaaGreatDoor
open Go.RowKit
def o6 (l:List E):List E:=l.filter fun x=>x.1.1==1
theorem vP (k:List UInt8) (l:List E):jb (1,k) (o6 l)=jb (1,k) l:=by
 unfold jb o6
 rw [List.find?_filter]
 congr 2
 funext x
 cases h:((1,k)==x.1) with
 | true =>
  have e:(1,k)=x.1:=bf.1 h
  rw [←e];rfl
 | false=>simp
theorem sB (A:Nat) (l:List E):∀ n,jI A (o6 l) n=jI A l n
 | 0=>vP _ _
 | n+1=>by
  unfold jI
  rw [vP,sB A l n]
theorem ET {S:List E} {k:K} {v:List UInt8} (h:∀ x∈S,pI x.1 k=true):jS k v S=S++[(k,v)]:=by
 unfold jS
 rw [List.filter_eq_self.2 h,List.filter_eq_nil_iff.2 (fun x b=>by rw [mw (h x b)];decide)]
theorem j5.next {A:Nat} {l:List E} {k:Nat} {i:Int} {value:List UInt8} {a b c d e:UInt8} {v:List UInt8} (hs:SortedE l) (hk:k<l.length) (o:l[k]=((1,[a,b,c,d,e]),v)) (h:j5 A (o6 (l.take k)) i value) (u:A<4294967296) (q:e.toNat≤32) (j:[a,b,c,d,e]=mT (kP a b c d) e.toNat) (_hN:kP a b c d<4294967296) :
  j5 A (o6 (l.take (k+1))) (if oy A e.toNat=kP a b c d∧i<e.toNat then (e.toNat:Int) else i) (if oy A e.toNat=kP a b c d∧i<e.toNat then v else value):=by
 have m:∀ x∈o6 (l.take k),pI x.1 l[k].1=true:=by
  intro x o
  have y:l.take (k+1)=l.take k++[l[k]]:=aW hk
  have r:SortedE (l.take k++[l[k]]):=by rw [←y];exact hs.sublist (List.take_sublist _ _)
  exact (ek.1 r).2.2 x (cf.1 o).1 _ (by simp)
 have B:o6 (l.take (k+1))=o6 (l.take k)++[l[k]]:=by
  unfold o6
  rw [aW hk,wR,o]
  rfl
 rw [B]
 rw [o] at m⊢
 have h2:=h.step (v:=v) u q _hN (fun x s e=>by
  have:=m x s
  rw [e,←j] at this
  exact qo this rfl)
 rw [←j,ET m] at h2
 exact h2
def Ds (w:World) (A:Nat) (l:List E) (bv vv i:Value) (wr:World):Prop :=
 ∃ k,k≤l.length∧i = .int .i64 (k:Int)∧∃ (b:Int) (value:List UInt8),bv = .int .i64 b∧vv = .string ⟨value.toArray⟩∧j5 A (o6 (l.take k)) b value∧∃ q,wr=w.drewN q
theorem j5.bounds {A:Nat} {S:List E} {d:Int} {value:List UInt8} (h:j5 A S d value) : -1≤d∧d≤32∧(d<0→value=[]):=by
 obtain ⟨-,-,⟨rfl,rfl,-⟩ | ⟨b,rfl,i,-⟩⟩:=h
 ·exact ⟨by omega,by omega,fun _=>rfl⟩
 ·exact ⟨by omega,by omega,fun h=>by omega⟩
theorem Ds.done {A:Nat} {l:List E} {b:Int} {value:List UInt8} (h:j5 A (o6 l) b value) (i:A<4294967296):F6 (jI A l 32) = .tuple #[.string ⟨value.toArray⟩,.bool (decide (0≤b))]:=by
 have j:=h.bounds
 rw [←sB,ym h i 32 (by omega) (af _)]
 by_cases d:b<0
 ·rw [aB d,j.2.2 d,cA (by omega)]
  rfl
 ·rw [au d,cQ (by omega)]
  rfl
end Go.Proofs.YtkkfmkhbdoeglaaGreatDoor
