/- A part of what is proved here: lemmas and contracts of single functions. No condition but those that each names. -/
import Derived.Test.YtkkfmkhbdoeglaaGreatDoorG00
import Derived.Test.YtkkfmkhbdoeglaaGreatDoorG16
import Derived.Test.YtkkfmkhbdoeglaaGreatDoorG22
import Derived.Test.YtkkfmkhbdoeglaaGreatDoorG23
import Derived.Test.YtkkfmkhbdoeglaaGreatDoorG24
set_option maxHeartbeats 1000000
set_option maxRecDepth 100000
namespace Go.Proofs.YtkkfmkhbdoeglaaGreatDoor
open Go.RowKit Go.Shelf
def rO (h:Nat):Value := .iface 189 (.agg #[.pointer (some ⟨h,0,none⟩)])
theorem FB (h : Nat) (w : World) : (nilAhead 433 189 (.agg #[.pointer (some ⟨h, 0, none⟩)]) "Room").run Tryz.prog w = .ok (some false) w := by kernel_rfl
theorem Aq (h : Nat) (w : World) : (method 433 189 (.agg #[.pointer (some ⟨h, 0, none⟩)]) "Room").run Tryz.prog w = .ok (207, .agg #[.pointer (some ⟨h, 0, none⟩)]) w := by kernel_rfl
def qh (S:List E) (room:Nat→Int):Int:=match overS S room with
 | some t=>(t:Int)
 | none => -1
theorem FJ {S:List E} {room:Nat→Int} {k:Nat} (h3:k<3) (hle:∀ t:Nat,t<k→(countS (t:Int) S:Int)≤room t) (b:room k<(countS (k:Int) S:Int)):qh S room=(k:Int):=by
 unfold qh overS
 obtain rfl | rfl | rfl:k=0∨k=1∨k=2:=by omega
 ·have h:room 0<(countS 0 S:Int):=b
  rw [aF h]
 ·have d:(countS 0 S:Int)≤room 0:=hle 0 (by omega)
  have h:room 1<(countS 1 S:Int):=b
  rw [aw (fu.2 d),aF h]
 ·have d:(countS 0 S:Int)≤room 0:=hle 0 (by omega)
  have h1:(countS 1 S:Int)≤room 1:=hle 1 (by omega)
  have h:room 2<(countS 2 S:Int):=b
  rw [aw (fu.2 d),aw (fu.2 h1),aF h]
theorem CB {S:List E} {room:Nat→Int} (hle:∀ t:Nat,t<3→(countS (t:Int) S:Int)≤room t):qh S room = -1:=by
 have b:(countS 0 S:Int)≤room 0:=hle 0 (by omega)
 have h1:(countS 1 S:Int)≤room 1:=hle 1 (by omega)
 have h2:(countS 2 S:Int)≤room 2:=hle 2 (by omega)
 unfold qh overS
 rw [aw (fu.2 b),aw (fu.2 h1),aw (fu.2 h2)]
theorem _root_.Go.RowKit.Below.IZ {w a b:World} (h:Below w.heap.size w a) (k:Below a.heap.size a b):Below w.heap.size w b:=h.trans (k.mono h.size)
theorem EntAt.IM {w w':World} {q off r:Nat} {S:List E} (h:EntAt w q off r S) (b:Below w.heap.size w w'):EntAt w' q off r S:=h.below b
theorem AF (q off r h:Nat) (x:HV) (S:List E) (w:World) (he:EntAt w q off r S) (F:HostIs w h x) (hl:S.length≤1000000000) :
  Calls Tryz.prog 159 #[.pointer (some ⟨q,off,none⟩),rO h] w fun e w'=>e = .returned (.int .i64 (qh S x.room))∧Below w.heap.size w w':=by
 have N:=ae he
 have G:=ae F
 clear he F
 have Q:=FB h
 have hm:=Aq h
 unfold rO
 go_enter Tryz.func159,Tryz.ntmps159
 go_wp2
 go_loopw [6] (fun i wr=>∃ k:Nat,k≤3∧i = .int .i64 k∧(∀ t,t<k→(countS t S:Int)≤x.room t)∧Below w.heap.size w wr) (fun i _=>3-(intOf i).toNat)
 case atStart=>exact ⟨0,by omega,rfl,(fun t O=>by omega),Below.refl _ _⟩
 case round =>
  obtain ⟨k,hk,rfl,hle,j⟩:=hrel
  by_cases h3:k<3
  ·have I:(k:Int)<3:=by omega
   have l:=ae hle
   clear hle
   have m:x.room k=if 0≤(k:Int)∧(k:Int)<3 then x.room (k:Int).toNat else 0:=by rw [aF ⟨by omega,I⟩];rfl
   have J:=ae m
   obtain ⟨y,o⟩:∃ y,y=x.room k:=⟨_,rfl⟩
   obtain ⟨B,hcv⟩:∃ B,B=countS (k:Int) S:=⟨_,rfl⟩
   have C:=ae o
   have D:=ae hcv
   clear m o hcv
   go_wp2_with fail
   refine (DF q off r S (k:Int) wr (N.out.IM j) hl).mono ?_
   rintro e w1 ⟨rfl,d⟩
   rw [←D.out]
   go_wp2_with fail
   refine (AJ h x (k:Int) w1 (G.out.fW ((j.IZ d).block h G.out.lt))).mono ?_
   rintro e w2 ⟨rfl,s⟩
   rw [←J.out,←C.out]
   have u:Below w.heap.size w w2:=(j.IZ d).trans (s.mono (j.IZ d).size)
   clear d s
   by_cases b:y<(B:Int)
   ·go_wp2
    go_ret
    refine ⟨?_,u⟩
    have e:qh S x.room=(k:Int):=by
     rw [C.out,D.out] at b
     exact FJ h3 l.out b
    rw [e]
    rfl
   ·go_wp2
    go_roundw
    case rel =>
     refine ⟨k+1,by omega,by go_num,fun t O => ?_,u⟩
     by_cases e:t=k
     ·subst e
      rw [C.out,D.out] at b
      first | exact b | exact fu.1 b
     ·exact l.out t (by omega)
    case measure=>simp [intOf];omega
  ·obtain rfl:k=3:=by omega
   have e:qh S x.room = -1:=CB hle
   have M:=ae e
   clear e hle
   go_wp2
   go_ret
   exact ⟨by rw [M.out];rfl,j⟩
end Go.Proofs.YtkkfmkhbdoeglaaGreatDoor
