/- A part of what is proved here: lemmas and contracts of single functions. No condition but those that each names. -/
import Derived.Test.YtkkfmkhbdoeglaaGreatDoorG00
import Derived.Deep.LoopGhost
import Derived.Test.YtkkfmkhbdoeglaaGreatDoorG10
import Derived.Test.YtkkfmkhbdoeglaaGreatDoorG39
namespace Go.Proofs.YtkkfmkhbdoeglaaGreatDoor
open Go.RowKit Go.Shelf
theorem kg.taken {w:World} {a:Option Addr} {n cap:Nat} {l:List Int} (h:kg w (.slice a n cap) l) (k:Nat) (hk:k≤l.length):kg w (.slice a k cap) (l.take k):=by
 obtain ⟨hl,r,cap',d,hc,j⟩:=h
 cases d
 have e:(l.take k).length=k:=by rw [aA];omega
 refine ⟨by simp,a,cap,by rw [e],by omega,fun i m => ?_⟩
 have b:i<(l.map fun x=>Value.int IntKind.i64 x).length:=by simp at m⊢;omega
 obtain ⟨g,off,o,q⟩:=j i b
 refine ⟨g,off,o,q.trans ?_⟩
 simp
theorem j7.gW {n k s B:Nat} {H:fJ} {p:PAg} {T:List E} {armed:Bool} (h:j7 n k s B H p T armed) (f:Int) (d:f≤9223372036854775807):j7 n k s B {H with fail:=max f (-1)} p T true:=by
 obtain ⟨ever,b⟩:=h.st
 have h1:=b.fine.ok.writes
 have h2:=b.fine.dp.left
 have h3:=b.fine.dp.log
 exact ⟨⟨ever,b.oq H.writes H.dp.left (max f (-1)) H.dp.log true (fun _=>rfl) h1 h2 ⟨by omega,by omega⟩ h3⟩,h.v,h.t,h.out,h.deg,h.t60,h.n48,h.dead⟩
theorem ic.keeps {w w':World} {v:Value} {T:List E} {K:Nat→Prop} (h:ic w v T) (d:lL K w w') (hK:T=[]∨∀ j,v.ownBlock=some j→K j):ic w' v T:=by
 rcases hK with rfl | hK
 ·obtain ⟨-,a,cap,rfl,-,-⟩:=h
  exact fR.nil w' a 3 cap
 ·exact fR.frame h fun b e i=>d.block b i fun l=>l (hK b e)
theorem ic.own {w:World} {v:Value} {T:List E} (h:ic w v T):T=[]∨∀ j,v.ownBlock=some j→j<w.heap.size:=by
 obtain ⟨hl,a,cap,rfl,hc,i⟩:=h
 cases T with
 | nil=>exact .inl rfl
 | cons x T =>
  right
  intro j e
  obtain ⟨b,off,rfl,d⟩:=i 0 (by rw [hl];simp)
  cases e
  exact fP d
end Go.Proofs.YtkkfmkhbdoeglaaGreatDoor
