/- A part of what is proved here: lemmas and contracts of single functions. No condition but those that each names. -/
import Derived.Test.YtkkfmkhbdoeglabGreatDoorG00
import Derived.Test.YtkkfmkhbdoeglabGreatDoorG02
import Derived.Test.YtkkfmkhbdoeglabGreatDoorG03
import Derived.Test.YtkkfmkhbdoeglabGreatDoorG09
import Derived.Test.YtkkfmkhbdoeglabGreatDoorG14
namespace Go.Proofs.YtkkfmkhbdoeglabGreatDoor
open Go.RowKit
def pd (s:List UInt8) (w:World) (e:Ending) (w':World):Prop :=
 Below w.heap.size w w'∧match mg s with
  | .inl (n,os)=>∃ b,e = .returned (.tuple #[.agg #[.int .u64 n,b],.agg #[.int .i64 0,.int .i64 0]])∧OwnS w' w.heap.size 4 b os.length (gx os)
  | .inr (k,p)=>e = .returned (.tuple #[.agg #[.int .u64 0,.slice none 0 0],.agg #[.int .i64 k,.int .i64 p]])
theorem pd.bad {s:List UInt8} {w w':World} {e:Ending} {k p:Nat} (b:Below w.heap.size w w') (h:mg s = .inr (k,p)) (he:e = .returned (.tuple #[.agg #[.int .u64 0,.slice none 0 0],.agg #[.int .i64 k,.int .i64 p]])):pd s w e w':=by
 refine ⟨b,?_⟩
 rw [h]
 exact he
theorem pd.good {s:List UInt8} {w w':World} {e:Ending} {n:Nat} {os:List OpB} (d:Below w.heap.size w w') (h:mg s = .inl (n,os)) {b:Value} (he:e = .returned (.tuple #[.agg #[.int .u64 n,b],.agg #[.int .i64 0,.int .i64 0]])) (i:OwnS w' w.heap.size 4 b os.length (gx os)):pd s w e w':=by
 refine ⟨d,?_⟩
 rw [h]
 exact ⟨b,he,i⟩
def xX (w:World) (B:Nat) (s:List UInt8) (i:Value) (wr:World):Prop :=
 ∃ k:Nat,k≤8∧i = .int .i64 (k:Int)∧wr.heap[B]?=some (.cells #[.int .u64 0,.slice none 0 0] 51 (0,0))∧wr.heap[B+1]?=some (.cells #[.int .i64 0,.int .i64 0] 31 (0,0))∧
  wr.heap[B+1+1]?=some (.cells #[.int .u64 0,.slice none 0 0] 51 (0,0))∧wr.heap[B+1+1+1]?=some (.cells #[.int .u64 (iP (s.take k):Nat),.slice none 0 0] 51 (0,0))∧Below B w wr
theorem xX.step {w wr:World} {B k v:Nat} {s:List UInt8} {x:Nat} (hk:k<8) (m:B≤w.heap.size) (b:wr.heap[B]?=some (.cells #[.int .u64 0,.slice none 0 0] 51 (0,0))) (h1:wr.heap[B+1]?=some (.cells #[.int .i64 0,.int .i64 0] 31 (0,0)))
  (h2:wr.heap[B+1+1]?=some (.cells #[.int .u64 0,.slice none 0 0] 51 (0,0))) (h3:wr.heap[B+1+1+1]?=some (.cells #[.int .u64 (v:Nat),.slice none 0 0] 51 (0,0))) (d:Below B w wr) (i:iP (s.take (k+1))=v*256+x) (u:Int) (hu:u=256*(v:Int)+x) :
  xX w B s (.int .i64 ((k+1:Nat):Int)) (wr.setCell ⟨B+1+1+1,0,none⟩ (.int .u64 u)).drew:=by
 have e:∀ j,j≠B+1+1+1→(wr.setCell ⟨B+1+1+1,0,none⟩ (.int .u64 u)).drew.heap[j]?=wr.heap[j]?:=fun j l=>Below.heap_setCell _ ⟨B+1+1+1,0,none⟩ _ j l
 refine ⟨k+1,hk,rfl,(e _ (by omega)).trans b,(e _ (by omega)).trans h1,(e _ (by omega)).trans h2,?_,(d.setCell (p:=⟨B+1+1+1,0,none⟩) (by simp <;> omega) _).drew⟩
 have:=heap_setCell wr (B+1+1+1) 0 (.int .u64 u) h3
 rw [i,show ((v*256+x:Nat):Int)=u by omega]
 exact this
def xW (w:World) (B n v:Nat) (s:List UInt8) (at' i:Value) (wr:World):Prop :=
 ∃ (k p:Nat) (os:List OpB) (b:Value),k≤n∧i = .int .i64 (k:Int)∧at' = .int .i64 (p:Int)∧p≤s.length∧os.length=k∧jf s n 9 [] []=jf s (n-k) p (il os) os∧
  wr.heap[B]?=some (.cells #[.int .u64 0,.slice none 0 0] 51 (0,0))∧wr.heap[B+1]?=some (.cells #[.int .i64 0,.int .i64 0] 31 (0,0))∧
  wr.heap[B+1+1]?=some (.cells #[.int .u64 0,.slice none 0 0] 51 (0,0))∧wr.heap[B+1+1+1]?=some (.cells #[.int .u64 (v:Nat),b] 51 (0,0))∧OwnS wr (B+4) 4 b os.length (gx os)∧Below B w wr
theorem xW.step {w w8:World} {B n v k p m:Nat} {s:List UInt8} {os:List OpB} {o:OpB} {y:Value} {l:Option Addr} {d:Nat} (hk:k<n) (r:m≤s.length) (u:os.length=k) (x:jf s n 9 [] []=jf s (n-k) p (il os) os) (hc:kQ s p (il os) = .inl (o,m))
  (C:w8.heap[B]?=some (.cells #[.int .u64 0,.slice none 0 0] 51 (0,0))) (h1:w8.heap[B+1]?=some (.cells #[.int .i64 0,.int .i64 0] 31 (0,0)))
  (h2:w8.heap[B+1+1]?=some (.cells #[.int .u64 0,.slice none 0 0] 51 (0,0))) (h3:w8.heap[B+1+1+1]?=some (.cells #[.int .u64 (v:Nat),y] 51 (0,0))) (i:OwnS w8 (B+4) 4 (.slice l (os++[o]).length d) (os++[o]).length (gx (os++[o]))) (q:Below B w w8) :
  xW w B n v s (.int .i64 (m:Int)) (.int .i64 ((k+1:Nat):Int)) (w8.setCell ⟨B+1+1+1,1,none⟩ (.slice l (os.length+1) d)):=by
 have e:(os++[o]).length=os.length+1:=by simp
 rw [e] at i
 have f:∀ j,j≠B+1+1+1→(w8.setCell ⟨B+1+1+1,1,none⟩ (.slice l (os.length+1) d)).heap[j]?=w8.heap[j]?:=fun j D=>Below.heap_setCell _ ⟨B+1+1+1,1,none⟩ _ j D
 refine ⟨k+1,m,os++[o],.slice l (os.length+1) d,hk,rfl,rfl,r,by rw [e,u],?_,(f _ (by omega)).trans C,(f _ (by omega)).trans h1,(f _ (by omega)).trans h2,heap_setCell w8 _ 1 _ h3,?_,q.setCell (p:=⟨B+1+1+1,1,none⟩) (by simp <;> omega) _⟩
 ·rw [x,show n-k=(n-(k+1))+1 by omega,jf,hc]
  simp [il]
 ·rw [e]
  exact i.frame (by rw [size_setCell];exact af _) (fun b q _=>f b (fun e=>i.apart (show B+1+1+1<B+4 by omega) (by rw [q,e])))
end Go.Proofs.YtkkfmkhbdoeglabGreatDoor
