/- A part of what is proved here: lemmas and contracts of single functions. No condition but those that each names. -/
import Derived.Test.YtkkfmkhbdoeglaaGreatDoorG00
import Derived.Test.YtkkfmkhbdoeglaaGreatDoorG23
import Derived.Test.YtkkfmkhbdoeglaaGreatDoorG29
import Derived.Test.YtkkfmkhbdoeglaaGreatDoorG30
import Derived.Test.YtkkfmkhbdoeglaaGreatDoorG31
set_option maxHeartbeats 1000000
set_option maxRecDepth 100000
namespace Go.Proofs.YtkkfmkhbdoeglaaGreatDoor
open Go.RowKit Go.Shelf
def qE (h:Nat):Value := .iface 189 (.agg #[.pointer (some ⟨h,0,none⟩)])
theorem EH (h : Nat) (w : World) : (nilAhead 433 189 (.agg #[.pointer (some ⟨h, 0, none⟩)]) "Room").run Tryz.prog w = .ok (some false) w := by kernel_rfl
theorem zm (h : Nat) (w : World) : (method 433 189 (.agg #[.pointer (some ⟨h, 0, none⟩)]) "Room").run Tryz.prog w = .ok (207, .agg #[.pointer (some ⟨h, 0, none⟩)]) w := by kernel_rfl
def o7 (S:List E) (room:Nat→Int):Int:=match overS S room with
 | some t=>(t:Int)
 | none => -1
theorem Eg {S:List E} {room:Nat→Int} {k:Nat} (h3:k<3) (hle:∀ t:Nat,t<k→(countS (t:Int) S:Int)≤room t) (b:room k<(countS (k:Int) S:Int)):o7 S room=(k:Int):=by
 unfold o7 overS
 obtain rfl | rfl | rfl:k=0∨k=1∨k=2:=by omega
 ·have h:room 0<(countS 0 S:Int):=b
  rw [aB h]
 ·have d:(countS 0 S:Int)≤room 0:=hle 0 (by omega)
  have h:room 1<(countS 1 S:Int):=b
  rw [au (eY.2 d),aB h]
 ·have d:(countS 0 S:Int)≤room 0:=hle 0 (by omega)
  have h1:(countS 1 S:Int)≤room 1:=hle 1 (by omega)
  have h:room 2<(countS 2 S:Int):=b
  rw [au (eY.2 d),au (eY.2 h1),aB h]
theorem Al {S:List E} {room:Nat→Int} (hle:∀ t:Nat,t<3→(countS (t:Int) S:Int)≤room t):o7 S room = -1:=by
 have b:(countS 0 S:Int)≤room 0:=hle 0 (by omega)
 have h1:(countS 1 S:Int)≤room 1:=hle 1 (by omega)
 have h2:(countS 2 S:Int)≤room 2:=hle 2 (by omega)
 unfold o7 overS
 rw [au (eY.2 b),au (eY.2 h1),au (eY.2 h2)]
theorem _root_.Go.RowKit.Below.GV {w a b:World} (h:Below w.heap.size w a) (k:Below a.heap.size a b):Below w.heap.size w b:=h.trans (k.mono h.size)
theorem EntAt.GK {w w':World} {q off r:Nat} {S:List E} (h:EntAt w q off r S) (b:Below w.heap.size w w'):EntAt w' q off r S:=h.below b
theorem yU (q off r h:Nat) (x:HV) (S:List E) (w:World) (he:EntAt w q off r S) (F:HostIs w h x) (hl:S.length≤1000000000) :
  Calls Tryz.prog 159 #[.pointer (some ⟨q,off,none⟩),qE h] w fun e w'=>e = .returned (.int .i64 (o7 S x.room))∧Below w.heap.size w w':=by
 have N:=ab he
 have G:=ab F
 clear he F
 have Q:=EH h
 have hm:=zm h
 unfold qE
 go_enter Tryz.func159,Tryz.ntmps159
 go_wp2
 go_loopw [6] (fun i wr=>∃ k:Nat,k≤3∧i = .int .i64 k∧(∀ t,t<k→(countS t S:Int)≤x.room t)∧Below w.heap.size w wr) (fun i _=>3-(intOf i).toNat)
 case atStart=>exact ⟨0,by omega,rfl,(fun t O=>by omega),Below.refl _ _⟩
 case round =>
  obtain ⟨k,hk,rfl,hle,j⟩:=hrel
  by_cases h3:k<3
  ·have I:(k:Int)<3:=by omega
   have l:=ab hle
   clear hle
   have m:x.room k=if 0≤(k:Int)∧(k:Int)<3 then x.room (k:Int).toNat else 0:=by rw [aB ⟨by omega,I⟩];rfl
   have J:=ab m
   obtain ⟨y,o⟩:∃ y,y=x.room k:=⟨_,rfl⟩
   obtain ⟨B,hcv⟩:∃ B,B=countS (k:Int) S:=⟨_,rfl⟩
   have C:=ab o
   have D:=ab hcv
   clear m o hcv
   go_wp2_with fail
   refine (Dq q off r S (k:Int) wr (N.out.GK j) hl).mono ?_
   rintro e w1 ⟨rfl,d⟩
   rw [←D.out]
   go_wp2_with fail
   refine (xY h x (k:Int) w1 (G.out.fP ((j.GV d).block h G.out.lt))).mono ?_
   rintro e w2 ⟨rfl,s⟩
   rw [←J.out,←C.out]
   have u:Below w.heap.size w w2:=(j.GV d).trans (s.mono (j.GV d).size)
   clear d s
   by_cases b:y<(B:Int)
   ·go_wp2
    go_ret
    refine ⟨?_,u⟩
    have e:o7 S x.room=(k:Int):=by
     rw [C.out,D.out] at b
     exact Eg h3 l.out b
    rw [e]
    rfl
   ·go_wp2
    go_roundw
    case rel =>
     refine ⟨k+1,by omega,by go_num,fun t O => ?_,u⟩
     by_cases e:t=k
     ·subst e
      rw [C.out,D.out] at b
      first | exact b | exact eY.1 b
     ·exact l.out t (by omega)
    case measure=>simp [intOf];omega
  ·obtain rfl:k=3:=by omega
   have e:o7 S x.room = -1:=Al hle
   have M:=ab e
   clear e hle
   go_wp2
   go_ret
   exact ⟨by rw [M.out];rfl,j⟩
end Go.Proofs.YtkkfmkhbdoeglaaGreatDoor
