/- A part of what is proved here: lemmas and contracts of single functions. No condition but those that each names. -/
import Derived.Test.YtkkfmkhbdoeglaaGreatDoorG00
import Derived.Test.YtkkfmkhbdoeglaaGreatDoorG07
import Derived.Test.YtkkfmkhbdoeglaaGreatDoorG11
import Derived.Test.YtkkfmkhbdoeglaaGreatDoorG13
import Derived.Test.YtkkfmkhbdoeglaaGreatDoorG16
set_option maxHeartbeats 1000000
set_option maxRecDepth 100000
namespace Go.Proofs.YtkkfmkhbdoeglaaGreatDoor
open Go.RowKit
theorem Aw (l:List E) (x:E):sizeS (l++[x])=sizeS l+(1+x.1.2.length+x.2.length):=by simp [sizeS]
theorem ui {l m:List E} (h:l.Perm m):sizeS l=sizeS m:=(h.map _).sum_nat
theorem Ct {l m:List E} (b:l.Nodup) (h:∀ x∈l,x∈m):sizeS l≤sizeS m:=by
 classical
 induction l generalizing m with
 | nil=>exact aK _
 | cons x l ih =>
  rw [dj] at b
  have i:=List.perm_cons_erase (h x (by simp))
  rw [ui i]
  have:=ih (m:=m.erase x) b.2 (fun y d=>(List.mem_erase_of_ne (fun e=>b.1 (by rw [←e];exact d))).2 (h y (aR _ d)))
  simp only [sizeS,bg,List.sum_cons] at this⊢
  omega
theorem DG (a b c:Nat) (h:a+(1+b+c)≤4611686018427387904):Value.int .i64 (wrap64 ((a:Int)+wrap64 (wrap64 (1+(b:Int))+(c:Int)))) = .int .i64 ((a+(1+b+c):Nat):Int):=by
 rw [IntWalk.wrap64_in (1+(b:Int)) (by omega),IntWalk.wrap64_in (1+(b:Int)+(c:Int)) (by omega),IntWalk.wrap64_in _ (by omega)]
 congr 1
theorem E3 (q off r:Nat) (S:List E) (w:World) (he:EntAt w q off r S) (x:sizeS S≤4611686018427387904) :
  Calls Tryz.prog 105 #[.pointer (some ⟨q,off,none⟩)] w fun e w'=>e = .returned (.int .i64 (sizeS S:Nat))∧Below w.heap.size w w':=by
 have hc:=he.cell
 obtain ⟨B,L,G,Q⟩:=he.tab
 have I:=ab Q
 have HS:=ab x
 have HN:=ab B.nodup
 clear he B Q x
 go_enter Tryz.func105,Tryz.ntmps105
 go_wp2_with (first | (refine kv rfl _ rfl Tryz.underlying107 rfl G ?_;intro w0 J R a0) | fail)
 try go_frame
 go_loopw [3] (fun n wr=>∃ l:List E,fU wr r w.heap.size L (l.map zS)∧n = .int .i64 (sizeS l:Nat)∧Below w.heap.size w wr) (fun _ wr=>wr.rangeLeft r w.heap.size)
 case atStart=>exact ⟨[],J,rfl,R⟩
 case round =>
  obtain ⟨l,d,rfl,i⟩:=hrel
  go_wp2_with (first | (refine kZ rfl _ rfl rfl d ?_ ?_) | fail)
  ·intro U
   have V:=ab (ui (qR (k9 d.sub.2.2) HN.out (U.trans I.out)))
   go_wp2
   go_ret
   exact ⟨by rw [V.out];rfl,i⟩
  ·intro M N v w2 W X o Y a1 Z a2
   obtain ⟨⟨k',O⟩,aa,e⟩:=az.1 (I.out.mem_iff.1 W)
   cases e
   have b:fU w2 r w.heap.size L ((l++[((M,N),O)]).map zS):=by rw [bA];exact o
   have hle:=Ct (m:=S) (k9 b.sub.2.2) (fun y hy=>uY (I.out.mem_iff.1 (b.sub.1 _ (az.2 ⟨y,hy,rfl⟩))))
   have C:=ab (Aw l ((M,N),O))
   rw [C.out] at hle
   have ag:=HS.out
   have s:=ab b
   have a3:=i.size
   have D:Below w.heap.size w w2:=i.grown Y i.size (fun j e=>by cases e;exact af _)
   have ak:=ab d
   clear o b W X aa d
   unfold kc at Z
   unfold kc
   go_wp2
   have u:Below w2.heap.size w2 ((w2.alloc (.cells #[.int .i64 M,.string ⟨N.toArray⟩] 94)).alloc (.cells #[.string ⟨O.toArray⟩] 180)):=((Below.refl _ w2).alloc (af _) _).alloc (by simp) _
   have F:=s.out.frame (u.block _ s.out.lt.1) (u.block _ s.out.lt.2)
   have al:=F.left
   have am:=ak.out.left
   simp only [aG,aq,ar,aM] at al am
   refine ⟨⟨_,F,?_,D.trans (u.mono D.size)⟩,by omega⟩
   rw [C.out]
   exact DG _ _ _ (aH hle ag)
end Go.Proofs.YtkkfmkhbdoeglaaGreatDoor
namespace Go.Proofs.YtkkfmkhbdoeglaaGreatDoor
open Go.RowKit Go.Shelf
theorem qx (q off:Nat) (w:World):Calls Tryz.prog 49 #[.pointer (some ⟨q,off,none⟩)] w fun e w' =>
  e = .returned (.func (.func 90) #[] #[.pointer (some ⟨w.heap.size,0,none⟩)])∧w'=w.alloc (.cells #[.pointer (some ⟨q,off,none⟩)] 173):=by
 go_enter Tryz.func49,Tryz.ntmps49
 go_wp2
 go_ret
 exact ⟨rfl,rfl⟩
end Go.Proofs.YtkkfmkhbdoeglaaGreatDoor
