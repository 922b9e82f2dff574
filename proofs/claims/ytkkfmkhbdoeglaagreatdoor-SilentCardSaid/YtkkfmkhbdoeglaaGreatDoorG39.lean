/- A part of what is proved here: lemmas and contracts of single functions. No condition but those that each names. -/
import Derived.Test.YtkkfmkhbdoeglaaGreatDoorG00
import Derived.Deep.CutBlock
import Derived.Deep.CutRange
import Derived.Laws.IdiomCopy
import Derived.Shelf.Spec.SlicesInsert
import Derived.StillTailTactics
import Derived.Test.YtkkfmkhbdoeglaaGreatDoorG09
import Derived.Test.YtkkfmkhbdoeglaaGreatDoorG13
import Derived.Test.YtkkfmkhbdoeglaaGreatDoorG33
namespace Go.Proofs.YtkkfmkhbdoeglaaGreatDoor
open Go.RowKit Go.Shelf
theorem OwnS.setCells {w:World} {base k n g go cap:Nat} {xs:List Value} (h:OwnS w base k (.slice (some ⟨g,go,none⟩) n cap) n xs) (p:Nat) (b:List Value) (y:p+b.length≤xs.length) :
  OwnS (w.setCells g (go+p) b) base k (.slice (some ⟨g,go,none⟩) n cap) n (xs.take p++b++xs.drop (p+b.length)):=by
 obtain ⟨hl,h | ⟨B,u,cap',e,s,q,r,hm,hc,o⟩⟩:=h
 ·cases h.1
 ·cases e
  have x:n*k≤cap*k:=dK _ r
  have d:∀ j,j<b.length→(w.cell? ⟨g,go+p+j,none⟩).isSome=true:=fun j C=>by
   rw [aY]
   exact (o (p+j) (by omega)).1
  refine ⟨by simp only [aq,aD,cd];omega,.inr ⟨g,go,cap,rfl,s,by rw [size_setCells];exact q,r,hm,fun i l => ?_,fun i l=>⟨?_,?_⟩⟩⟩
  ·have m:i<xs.length:=by simp only [aq,aD,cd] at l;omega
   have D:(xs.take p).length=p:=by rw [aD];omega
   by_cases h1:i<p
   ·rw [World.cell?_setCells_out g b (go+p) w ⟨g,go+i,none⟩ (fun _ _ => .inl (by show go+i<go+p;omega)),hc i m]
    congr 1
    rw [dJ (by simp only [aq];omega),dJ (by omega),List.getElem_take]
   ·by_cases h2:i<p+b.length
    ·have:=World.cell?_setCells_in g b (go+p) w d (i-p) (by omega)
     rw [show go+p+(i-p)=go+i by omega] at this
     rw [this]
     congr 1
     rw [dJ (by simp only [aq];omega),ee (by omega)]
     congr 1
     omega
    ·rw [World.cell?_setCells_out g b (go+p) w ⟨g,go+i,none⟩ (fun _ _ => .inr (by show go+p+b.length≤go+i;omega)),hc i m]
     congr 1
     rw [ee (by simp only [aq];omega),List.getElem_drop]
     congr 1
     simp only [aq]
     omega
  ·by_cases h2:p≤i∧i<p+b.length
   ·have:=World.cell?_setCells_in g b (go+p) w d (i-p) (by omega)
    rw [show go+p+(i-p)=go+i by omega] at this
    rw [this]
    rfl
   ·rw [World.cell?_setCells_out g b (go+p) w ⟨g,go+i,none⟩ (fun _ _=>by show go+i<go+p∨go+p+b.length≤go+i;omega)]
    exact (o i l).1
  ·rw [World.frozen?_setCells]
   exact (o i l).2
theorem nO {b:Nat} {e:TypeId} : ∀ (d:List Value) (o:Nat) (w:World),(∃ C fz,w.heap[b]?=some (.cells C e fz))→∃ C fz,(w.setCells b o d).heap[b]?=some (.cells C e fz)
 | [],_,_,h=>h
 | v::d,o,w,h=>by
  rw [World.setCells]
  refine nO d _ _ ?_
  obtain ⟨C,fz,i⟩:=h
  refine ⟨C.setIfInBounds o v,fz,?_⟩
  unfold World.setCell
  simp
  obtain ⟨h1,h2⟩:=cj.1 i
  simp [eA,i]
theorem CellsOf.setCells {w:World} {g go n cap:Nat} {e:TypeId} (h:CellsOf w (.slice (some ⟨g,go,none⟩) n cap) e) (p:Nat) (d:List Value):CellsOf (w.setCells g p d) (.slice (some ⟨g,go,none⟩) n cap) e:=fun b i=>by
 cases i
 exact nO d p w (h g rfl)
end Go.Proofs.YtkkfmkhbdoeglaaGreatDoor
