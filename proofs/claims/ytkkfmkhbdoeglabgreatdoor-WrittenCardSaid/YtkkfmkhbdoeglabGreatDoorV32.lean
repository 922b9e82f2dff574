/- Lemmas of the proof. No condition. -/
import Derived.Test.YtkkfmkhbdoeglabGreatDoorV31
namespace Go.Proofs.YtkkfmkhbdoeglabGreatDoor
open Go renaming World->Q0,Value->Q4
open Go.Value renaming int->I,slice->Q6,ownBlock->Rl
open Go.World renaming heap->Q
open List renaming length->O
open Option renaming none->J,some->N
open _root_.Array renaming size->G
open Go.RowKit
variable{D j k v:Nat}{l:List Int}{os:List kv}{w w1:Q0}
def Ue(w:Q0)(v:Q4)(l:List Int):Prop:=gE w v 1 (O l) (l.map fun x=>I .i64 x)
theorem Ue.gU{v:Q4}(h:Ue w v l):
  ∃a cap,v=Q6 a (O l) cap/\O l<=cap/\∀i (h:i<O l),∃b off,a=N ⟨b,off,J⟩/\World.cell? w ⟨b,off+i,J⟩=N (I .i64 l[i]):=by
 obtain⟨_,a,cap,rfl,hc,j⟩:=h;refine⟨a,cap,rfl,hc,fun i m=>?_⟩;obtain⟨b,off,rfl,d⟩:=j i (by rw[aB];exact m);exact⟨b,off,rfl,by rw[d];simp⟩
theorem Ue.below{w':Q0}{v:Q4}(h:Ue w v l)(b:Below (G (Q w)) w w'):Ue w' v l:=gE.below h b
def TZ:List Int->List kv->List kv
 | a::b::r,os=>if(O os)<8 then TZ r (if(iY os).contains ((Uw a b).table,(Uw a b).key)then os else os++[Uw a b])else os
 | _,os=>os
def T5(l:List Int):List kv:=TZ l [Uw (O l) 1]
theorem T6:∀(os:List kv) (o:kv) (i:Nat) (b:List K),jA i b os=J->iZ o (b++iY os)=0->jA i b (os++[o])=J
 | [],o,i,b,_,h=>by simp only[iY,dM,cX]at h;simp[jA,h]
 | x::os,o,i,b,h1,d=>by
  unfold jA at h1;split at h1
  .rename_i j;rw[aV];unfold jA;rw[aw j];refine T6 os o (i+1) _ h1 ?_;simpa [iY]using d
  .cases h1
theorem T3:∀(n:Nat) (l:List Int) (os:List kv),O l<=n->jA 0 [] os=J->1<=O os->O os<=8->jA 0 [] (TZ l os)=J/\1<=(TZ l os).length/\(TZ l os).length<=8
 | n,[],os,_,h,h1,d=>⟨h,h1,d⟩
 | n,[_],os,_,h,h1,d=>⟨h,h1,d⟩
 | 0,a::b::r,os,i,h,h1,d=>by simp at i
 | n+1,a::b::r,os,i,h,h1,d=>by
  unfold TZ;by_cases j:O os<8
  .rw[aw j];have m:O r<=n:=by simp at i;omega
   cases hc:(iY os).contains ((Uw a b).table,(Uw a b).key) with
   | true=>exact T3 n r os m h h1 d
   | false=>
    refine T3 n r _ m (T6 os _ 0 [] h (Ur a b _ (by simpa using hc))) ?_ ?_
    .simp
    .simp;omega
  .rw[af j];exact⟨h,h1,d⟩
theorem Uo(l:List Int)(v:Nat)(b:ij v=true):lF v (T5 l)=J:=by
 have d:jA 0 [] [Uw (O l) 1]=J:=by unfold jA;rw[aw (Ur _ _ _ rfl)];rfl
 obtain⟨h1,i,j⟩:=T3 (O l) l [Uw (O l) 1] gH d (by simp) (by simp);unfold lF T5;rw[af (by rw[b];decide),af (by omega)];exact h1
def Ua(w1:Q0)(D v:Nat)(l:List Int)(i:Q4)(wr:Q0):Prop:=
 ∃(k:Nat) (os:List kv) (b:Q4),i=I .i64 ((2*k:Nat):Int)/\2*k<=O l+1/\T5 l=TZ (l.drop (2*k)) os/\1<=O os/\O os<=8/\
  wr.heap[D]?=N (.cells #[I .u64 v,b] 51 (0,0))/\gS wr (G (Q w1)) 4 b (O os) (iP os)/\Rl b≠N D/\Below (G (Q w1)) w1 wr
def Un(b:Q0)(os:List kv)(key:K)(t i:Q4)(wr:Q0):Prop:=
 ∃m:Nat,m<=O os/\i=I .i64 (m:Int)/\t=.bool ((iY (os.take m)).contains key)/\∃q,wr=b.drewN q
theorem Un.step{d:Q0}{key:K}{m q:Nat}{b:Bool}(h:m<O os)(i:b=((iY (os.take m)).contains key || ((os[m].table,os[m].key)==key))):Un d os key (.bool b) (I .i64 ((m+1:Nat):Int)) (d.drewN q):=by refine⟨m+1,h,rfl,?_,q,rfl⟩;rw[zq os m h,List.contains_append,i];congr 2;simp only[List.contains_cons,List.contains_nil,Bool.or_false];exact cS.2 (by rw[aT,aT];exact eq_comm)
theorem Ua.next{W:Q0}{b:Q4}(o:j=2*k)(hk:j+1<O l)(i:T5 l=TZ (l.drop (2*(k+1))) os)(h1:1<=O os)(r:O os<=8)(s:W.heap[D]?=N (.cells #[I .u64 v,b] 51 (0,0)))(d:gS W (G (Q w1)) 4 b (O os) (iP os))(m:Rl b≠N D)(u:Below (G (Q w1)) w1 W)(q:Nat):
  Ua w1 D v l (I .i64 ((j:Int)+2)) (W.drewN q):=by
 subst o;refine⟨k+1,os,b,?_,by omega,i,h1,r,s,d,m,u.drewN q⟩;rw[show((2*(k+1):Nat):Int)=((2*k:Nat):Int)+2 by omega]
theorem Ua.snoc{w8:Q0}{o:kv}{y i:Option Addr}{r d:Nat}(B:j=2*k)(hk:j+1<O l)(u:T5 l=TZ (l.drop (2*(k+1))) (os++[o]))(E:O os<8)(C:w8.heap[D]?=N (.cells #[I .u64 v,Q6 y (O os) r] 51 (0,0)))(m:gS w8 (G (Q w1)) 4 (Q6 i (os++[o]).length d) (os++[o]).length (iP (os++[o])))(q:(Q6 i (os++[o]).length d).ownBlock≠N D)(s:Below (G (Q w1)) w1 w8)(x:G (Q w1)<=D):
  Ua w1 D v l (I .i64 ((j:Int)+2)) (World.setCell w8 ⟨D,1,J⟩ (Q6 i (O os+1) d)):=by
 subst B;have e:(os++[o]).length=O os+1:=by simp
 rw[e]at m q;refine⟨k+1,os++[o],Q6 i (O os+1) d,?_,by omega,u,by simp,by rw[e];omega,QN w8 D 1 _ C,?_,q,s.setCell (p:=⟨D,1,J⟩) x _⟩
 .rw[show((2*(k+1):Nat):Int)=((2*k:Nat):Int)+2 by omega]
 .rw[e];exact m.frame (by rw[QO];exact aq _) (fun b s _=>Below.heap_setCell w8 ⟨D,1,J⟩ _ b (fun e=>q (by rw[s,e])))
end Go.Proofs.YtkkfmkhbdoeglabGreatDoor
