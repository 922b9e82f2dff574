/- A part of what is proved here: lemmas and contracts of single functions. No condition but those that each names. -/
import Derived.Test.YtkkfmkhbdoeglabGreatDoorG00
import Derived.Deep.LoopGhost
import Derived.Test.YtkkfmkhbdoeglabGreatDoorG09
import Derived.Test.YtkkfmkhbdoeglabGreatDoorG20
import Derived.Test.YtkkfmkhbdoeglabGreatDoorG32
import Derived.Test.YtkkfmkhbdoeglabGreatDoorG42
namespace Go.Proofs.YtkkfmkhbdoeglabGreatDoor
open Go.RowKit Go.Shelf
theorem kj.taken {w:World} {a:Option Addr} {n cap:Nat} {l:List Int} (h:kj w (.slice a n cap) l) (k:Nat) (hk:k≤l.length):kj w (.slice a k cap) (l.take k):=by
 obtain ⟨hl,r,cap',d,hc,j⟩:=h
 cases d
 have e:(l.take k).length=k:=by rw [az];omega
 refine ⟨by simp,a,cap,by rw [e],by omega,fun i m => ?_⟩
 have b:i<(l.map fun x=>Value.int IntKind.i64 x).length:=by simp at m⊢;omega
 obtain ⟨g,off,o,q⟩:=j i b
 refine ⟨g,off,o,q.trans ?_⟩
 simp
theorem jv.gW {n k s B:Nat} {H:fP} {p:PAg} {T:List E} {armed:Bool} (h:jv n k s B H p T armed) (f:Int) (d:f≤9223372036854775807):jv n k s B {H with fail:=max f (-1)} p T true:=by
 obtain ⟨ever,b⟩:=h.st
 have h1:=b.fine.ok.writes
 have h2:=b.fine.dp.left
 have h3:=b.fine.dp.log
 exact ⟨⟨ever,b.mT H.writes H.dp.left (max f (-1)) H.dp.log true (fun _=>rfl) h1 h2 ⟨by omega,by omega⟩ h3⟩,h.v,h.t,h.out,h.deg,h.t60,h.n48,h.dead⟩
theorem iJ.keeps {w w':World} {v:Value} {T:List E} {K:Nat→Prop} (h:iJ w v T) (d:jD K w w') (hK:T=[]∨∀ j,v.ownBlock=some j→K j):iJ w' v T:=by
 rcases hK with rfl | hK
 ·obtain ⟨-,a,cap,rfl,-,-⟩:=h
  exact fW.nil w' a 3 cap
 ·exact fW.frame h fun b e i=>d.block b i fun l=>l (hK b e)
theorem iJ.own {w:World} {v:Value} {T:List E} (h:iJ w v T):T=[]∨∀ j,v.ownBlock=some j→j<w.heap.size:=by
 obtain ⟨hl,a,cap,rfl,hc,i⟩:=h
 cases T with
 | nil=>exact .inl rfl
 | cons x T =>
  right
  intro j e
  obtain ⟨b,off,rfl,d⟩:=i 0 (by rw [hl];simp)
  cases e
  exact fU d
end Go.Proofs.YtkkfmkhbdoeglabGreatDoor
namespace Go.Proofs.YtkkfmkhbdoeglabGreatDoor
open Go.RowKit
theorem Ce {w w':World} {v:Value} {e:TypeId} (h:CellsOf w v e) (i:∀ b,v.ownBlock=some b→b<w.heap.size) (j:Below w.heap.size w w'):CellsOf w' v e:=fun b d=>by
 obtain ⟨C,fz,l⟩:=h b d
 exact ⟨C,fz,fQ j (i b d) l⟩
structure vw (w:World) (base:Nat) (v:Value) (l:List (List UInt8)):Prop where
 own:OwnS w base 1 v l.length (strsV l)
 typ:CellsOf w v 9
theorem vw.nil (w:World) (base:Nat):vw w base (.slice none 0 0) []:=⟨OwnS.nil _ _ _,CellsOf.nil _ _⟩
theorem vw.below {w w':World} {base:Nat} {v:Value} {l:List (List UInt8)} (h:vw w base v l) (d:Below w.heap.size w w'):vw w' base v l :=
 ⟨h.own.below d,Ce h.typ (fun b e=>OwnS.gP h.own b e) d⟩
theorem Fh {w:World} {b:Nat} {s:List UInt8} (h:w.heap[b]?=some (.cells #[.string ⟨s.toArray⟩] 9 (0,0))):fW w (.slice (some ⟨b,0,none⟩) 1 1) 1 1 (strsV [s]):=by
 refine ⟨rfl,_,1,rfl,af _,fun i d=>⟨_,0,rfl,?_⟩⟩
 obtain rfl:i=0:=by simp [strsV] at d;omega
 exact ae _ _ 0 _ _ _ h
theorem xl {o:Oper} {a:Act} {K:Act→World→Prop} {Q:Exit→Act→World→Prop} {w d:World} (s x:Operand)
  (B:o.op = .call {callee := .builtin .append,args:=#[s,x],argTypes:=#[28,28]})
  (base:Nat) (v:Value) (n:Nat) (l:List (List UInt8)) (C:n=l.length) (D:a.eval s=v) (q:vw d base v l) (i:Below d.heap.size d w) (m:List UInt8) (hs:fW w (a.eval x) 1 1 (strsV [m]))
  (hlen:l.length+1≤8796093022208) (b:base≤d.heap.size)
  (h:∀ v' w',vw w' base v' (l++[m])→Below base d w'→K (a.put o.dst v') w'):o.wp Tryz.prog a w K Q:=by
 subst C
 have r:=q.below i
 obtain ⟨i0,E,u,j,y⟩:=dD DP
 have hmx:maxLen=9223372036854775807:=rfl
 refine j9 s x _ _ B base 1 9 i0 (.string ⟨#[]⟩) Tryz.underlying28 E u j (by rw [j];rfl) (by omega) v l.length (strsV l) D r.own r.typ 1 (strsV [m]) (fW.src Tryz.underlying28 hs (yF [m])) (by omega) (by rw [y];omega) (aH b i.size) (fun v' w' h1 h2 h3 h4 => ?_)
 rw [←nB] at h1
 exact h v' w' ⟨by simpa using h1,h3⟩ ((i.mono b).trans (ik r.own h2 (aH b i.size)))
end Go.Proofs.YtkkfmkhbdoeglabGreatDoor
