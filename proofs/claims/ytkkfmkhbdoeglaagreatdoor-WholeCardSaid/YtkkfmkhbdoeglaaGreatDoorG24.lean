/- A part of what is proved here: lemmas and contracts of single functions. No condition but those that each names. -/
import Derived.Test.YtkkfmkhbdoeglaaGreatDoorG00
import Derived.Test.YtkkfmkhbdoeglaaGreatDoorG02
import Derived.Test.YtkkfmkhbdoeglaaGreatDoorG10
import Derived.Test.YtkkfmkhbdoeglaaGreatDoorG13
import Derived.Test.YtkkfmkhbdoeglaaGreatDoorG21
import Derived.Test.YtkkfmkhbdoeglaaGreatDoorG23
set_option maxHeartbeats 1000000
set_option maxRecDepth 100000
namespace Go.Proofs.YtkkfmkhbdoeglaaGreatDoor
open Go.RowKit
theorem yE (q:E→Bool) (p:List E) (x:E):(p++[x]).filter q=p.filter q++(if q x then [x] else []):=by
 rw [eo,List.filter_cons]
 cases q x <;> rfl
end Go.Proofs.YtkkfmkhbdoeglaaGreatDoor
namespace Go.Proofs.YtkkfmkhbdoeglaaGreatDoor
open Go.RowKit
theorem DF (q off r:Nat) (S:List E) (t:Int) (w:World) (he:EntAt w q off r S) (hl:S.length≤1000000000) :
  Calls Tryz.prog 106 #[.pointer (some ⟨q,off,none⟩),.int .i64 t] w fun e w'=>e = .returned (.int .i64 (countS t S:Nat))∧Below w.heap.size w w':=by
 have hc:=he.cell
 obtain ⟨J,L,O,U⟩:=he.tab
 have Q:=ae U
 have HN:=ae J.nodup
 clear he J U
 go_enter Tryz.func106,Tryz.ntmps106
 go_wp2_with (first | (refine jY rfl _ rfl Tryz.underlying107 rfl O ?_;intro w0 R V av) | fail)
 try go_frame
 go_loopw [5] (fun n wr=>∃ l:List E,gm wr r w.heap.size L (l.map zS)∧n = .int .i64 (countS t l:Nat)∧Below w.heap.size w wr) (fun _ wr=>wr.rangeLeft r w.heap.size)
 case atStart=>exact ⟨[],R,rfl,V⟩
 case round =>
  obtain ⟨l,d,rfl,u⟩:=hrel
  go_wp2_with (first | (refine kD rfl _ rfl rfl d ?_ ?_) | fail)
  ·intro W
   have X:=ae (tH t (qO (ky d.sub.2.2) HN.out (W.trans Q.out)))
   go_wp2
   go_ret
   exact ⟨by rw [X.out];rfl,u⟩
  ·intro m B v w2 Y Z C aa aE ab a0
   obtain ⟨⟨k',I⟩,ag,e⟩:=aB.1 (Q.out.mem_iff.1 Y)
   cases e
   have s:gm w2 r w.heap.size L ((l++[((m,B),I)]).map zS):=by rw [bC];exact C
   have ak:=ky s.sub.2.2
   have a1:countS t l≤1000000000:=by
    have h1:countS t l≤l.length:=List.countP_le_length
    have h2:l.length≤S.length:=rE (ky d.sub.2.2) (fun y hy=>sY (Q.out.mem_iff.1 (d.sub.1 _ (aB.2 ⟨y,hy,rfl⟩))))
    omega
   have M:=ae (tI t l ((m,B),I))
   have i:=ae s
   have a2:=u.size
   have x:Below w.heap.size w w2:=u.grown aa u.size (fun j e=>by cases e;exact ah _)
   have N:=ae d
   clear C s Y Z ag d ak
   unfold kP at ab
   by_cases ht:m=t
   ·subst ht
    have D:Hid (countS m (l++[((m,B),I)])=countS m l+1):=ae (by rw [M.out,aF rfl])
    go_wp2
    have b:Below w2.heap.size w2 (w2.alloc (.cells #[.int .i64 m,.string ⟨B.toArray⟩] 94)):=(Below.refl _ w2).alloc (ah _) _
    have o:=i.out.frame (b.block _ i.out.lt.1) (b.block _ i.out.lt.2)
    have F:=o.left
    have G:=N.out.left
    simp only [aH,ar,au,aJ] at F G
    exact ⟨⟨_,o,by rw [D.out];rfl,x.trans (b.mono x.size)⟩,by omega⟩
   ·have D:Hid (countS t (l++[((m,B),I)])=countS t l):=ae (by rw [M.out,aw ht];rfl)
    go_wp2
    have b:Below w2.heap.size w2 (w2.alloc (.cells #[.int .i64 m,.string ⟨B.toArray⟩] 94)):=(Below.refl _ w2).alloc (ah _) _
    have o:=i.out.frame (b.block _ i.out.lt.1) (b.block _ i.out.lt.2)
    have F:=o.left
    have G:=N.out.left
    simp only [aH,ar,au,aJ] at F G
    exact ⟨⟨_,o,by rw [D.out],x.trans (b.mono x.size)⟩,by omega⟩
end Go.Proofs.YtkkfmkhbdoeglaaGreatDoor
namespace Go.Proofs.YtkkfmkhbdoeglaaGreatDoor
open Go.RowKit
def qg (l:List E):List E:=l.filter fun x=>x.1.1==1
theorem xG (k:List UInt8) (l:List E):jq (1,k) (qg l)=jq (1,k) l:=by
 unfold jq qg
 rw [List.find?_filter]
 congr 2
 funext x
 cases h:((1,k)==x.1) with
 | true =>
  have e:(1,k)=x.1:=bj.1 h
  rw [←e];rfl
 | false=>simp
theorem uf (A:Nat) (l:List E):∀ n,j9 A (qg l) n=j9 A l n
 | 0=>xG _ _
 | n+1=>by
  unfold j9
  rw [xG,uf A l n]
theorem FO {S:List E} {k:K} {v:List UInt8} (h:∀ x∈S,nJ x.1 k=true):jJ k v S=S++[(k,v)]:=by
 unfold jJ
 rw [ez.2 h,dZ.2 (fun x b=>by rw [kN (h x b)];decide)]
theorem kH.next {A:Nat} {l:List E} {k:Nat} {i:Int} {value:List UInt8} {a b c d e:UInt8} {v:List UInt8} (hs:SortedE l) (hk:k<l.length) (o:l[k]=((1,[a,b,c,d,e]),v)) (h:kH A (qg (l.take k)) i value) (u:A<4294967296) (q:e.toNat≤32) (j:[a,b,c,d,e]=nK (lQ a b c d) e.toNat) (_hN:lQ a b c d<4294967296) :
  kH A (qg (l.take (k+1))) (if o4 A e.toNat=lQ a b c d∧i<e.toNat then (e.toNat:Int) else i) (if o4 A e.toNat=lQ a b c d∧i<e.toNat then v else value):=by
 have m:∀ x∈qg (l.take k),nJ x.1 l[k].1=true:=by
  intro x o
  have y:l.take (k+1)=l.take k++[l[k]]:=aO hk
  have r:SortedE (l.take k++[l[k]]):=by rw [←y];exact hs.sublist (List.take_sublist _ _)
  exact (dB.1 r).2.2 x (cm.1 o).1 _ (by simp)
 have B:qg (l.take (k+1))=qg (l.take k)++[l[k]]:=by
  unfold qg
  rw [aO hk,yE,o]
  rfl
 rw [B]
 rw [o] at m⊢
 have h2:=h.step (v:=v) u q _hN (fun x s e=>by
  have:=m x s
  rw [e,←j] at this
  exact rG this rfl)
 rw [←j,FO m] at h2
 exact h2
def Du (w:World) (A:Nat) (l:List E) (bv vv i:Value) (wr:World):Prop :=
 ∃ k,k≤l.length∧i = .int .i64 (k:Int)∧∃ (b:Int) (value:List UInt8),bv = .int .i64 b∧vv = .string ⟨value.toArray⟩∧kH A (qg (l.take k)) b value∧∃ q,wr=w.drewN q
theorem kH.bounds {A:Nat} {S:List E} {d:Int} {value:List UInt8} (h:kH A S d value) : -1≤d∧d≤32∧(d<0→value=[]):=by
 obtain ⟨-,-,⟨rfl,rfl,-⟩ | ⟨b,rfl,i,-⟩⟩:=h
 ·exact ⟨by omega,by omega,fun _=>rfl⟩
 ·exact ⟨by omega,by omega,fun h=>by omega⟩
theorem Du.done {A:Nat} {l:List E} {b:Int} {value:List UInt8} (h:kH A (qg l) b value) (i:A<4294967296):Iv (j9 A l 32) = .tuple #[.string ⟨value.toArray⟩,.bool (decide (0≤b))]:=by
 have j:=h.bounds
 rw [←uf,AK h i 32 (by omega) (ah _)]
 by_cases d:b<0
 ·rw [aF d,j.2.2 d,bm (by omega)]
  rfl
 ·rw [aw d,bZ (by omega)]
  rfl
end Go.Proofs.YtkkfmkhbdoeglaaGreatDoor
