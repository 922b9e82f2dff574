/- A part of what is proved here: lemmas and contracts of single functions. No condition but those that each names. -/
import Derived.Test.YtkkfmkhbdoeglaaGreatDoorG00
import Derived.BigRegion
import Derived.RegionTactic
import Derived.Test.YtkkfmkhbdoeglaaGreatDoorG17
set_option maxRecDepth 100000
namespace Go.Proofs.YtkkfmkhbdoeglaaGreatDoor
open Go.RowKit Go.Shelf
structure nt (w:World) (c gb go cap at' tt:Nat) (l:List UInt8):Prop where
 row:w.heap[c]?=some (.cells #[.slice (some ⟨gb,go,none⟩) l.length cap,.int .i64 (at':Nat),.int .i64 (tt:Nat),.pointer none] 211 (0,0))
 bytes:BytesAt w (.slice (some ⟨gb,go,none⟩) l.length cap) l
 ne:gb≠c
 cap:l.length≤cap
 len:l.length≤1000
theorem nt.drew {w:World} {c gb go cap at' tt:Nat} {l:List UInt8} (h:nt w c gb go cap at' tt l):nt w.drew c gb go cap at' tt l:=⟨h.row,h.bytes,h.ne,h.cap,h.len⟩
theorem sd {w w':World} {c:Nat} (h:w.grownBy w' (some c)):Ext (fun j=>j=c) w w':=⟨h.os,h.tape,h.output,h.size,fun k hk hs=>h.block k hk fun e=>hs (by cases e;rfl)⟩
theorem ze (c gb go cap at' tt n:Nat) (l:List UInt8) (w:World) (h:nt w c gb go cap at' tt l) (E:n≤100) (B:1≤n) (hs:tt+n≤l.length) :
  Calls Tryz.prog 121 #[.pointer (some ⟨c,0,none⟩),.int .i64 n] w fun e w'=>e = .returned (.slice (some ⟨gb,go+tt,none⟩) n n)∧nt w' c gb go cap tt (tt+n) l∧Ext (fun j=>j=c) w w':=by
 obtain ⟨h5,h6,h7,i,h3⟩:=h
 have c0:w.cell? ⟨c,0,none⟩=some (.slice (some ⟨gb,go,none⟩) l.length cap):=af w c 0 _ _ _ h5
 have c1:w.cell? ⟨c,1,none⟩=some (.int .i64 at'):=af w c 1 _ _ _ h5
 have c2:w.cell? ⟨c,2,none⟩=some (.int .i64 tt):=af w c 2 _ _ _ h5
 have c3:w.cell? ⟨c,3,none⟩=some (.pointer none):=af w c 3 _ _ _ h5
 have f1:=ao w c 1 _ _ h5
 have f2:=ao w c 2 _ _ h5
 have f3:=ao w c 3 _ _ h5
 have C:=fI h5
 have s:=ae h5
 have u:=ae h6
 clear h5 h6
 have F:(tt:Int)≤tt+n:=by omega
 have G:(tt:Int)+n≤cap:=by omega
 have I:tt+n≤cap:=by omega
 have J:¬(tt:Int)+n<0:=by omega
 have D:¬(l.length:Int)-tt<n:=by omega
 go_enter Tryz.func121,Tryz.ntmps121
 go_wp2
 go_quiet (fail)
 go_wp2
 go_region
 all_goals (go_wp2;go_quiet (fail);go_wp2)
 go_ret
 have o:=heap_setCell w c 1 (.int .i64 tt) s.out
 have q:=heap_setCell (w.setCell ⟨c,1,none⟩ (.int .i64 tt)) c 2 (.int .i64 (tt+n:Nat)) o
 have d:∀ k m,w.grownBy ((((w.drewN k).setCell ⟨c,1,none⟩ (.int .i64 tt)).setCell ⟨c,2,none⟩ (.int .i64 (tt+n:Nat))).drewN m) (some c):=fun k m =>
  om (gC (grownBy_set ((Below.refl _ w).drewN k) 1 _) 2 _) m
 have r:∀ k m,BytesAt ((((w.drewN k).setCell ⟨c,1,none⟩ (.int .i64 tt)).setCell ⟨c,2,none⟩ (.int .i64 (tt+n:Nat))).drewN m) (.slice (some ⟨gb,go,none⟩) l.length cap) l:=fun k m =>
  fR.grown u.out (d k m) (fun b x e=>h7 (by cases x;cases e;rfl))
 have y:tt+n-tt=n:=by omega
 refine ⟨?_,⟨q,r _ _,h7,i,h3⟩,sd (d _ _)⟩
 show Ending.returned (Value.slice (some ⟨gb,go+tt,none⟩) (tt+n-tt) (tt+n-tt))=_
 rw [y]
theorem Ge (c gb go cap at' tt:Nat) (l:List UInt8) (w:World) (h:nt w c gb go cap at' tt l) (hs:tt≤l.length) :
  Calls Tryz.prog 121 #[.pointer (some ⟨c,0,none⟩),.int .i64 0] w fun e w'=>(∃ v,e = .returned v∧BytesAt w' v [])∧nt w' c gb go cap tt tt l∧Ext (fun j=>j=c) w w':=by
 obtain ⟨h5,h6,h7,i,h3⟩:=h
 have c0:w.cell? ⟨c,0,none⟩=some (.slice (some ⟨gb,go,none⟩) l.length cap):=af w c 0 _ _ _ h5
 have c1:w.cell? ⟨c,1,none⟩=some (.int .i64 at'):=af w c 1 _ _ _ h5
 have c2:w.cell? ⟨c,2,none⟩=some (.int .i64 tt):=af w c 2 _ _ _ h5
 have c3:w.cell? ⟨c,3,none⟩=some (.pointer none):=af w c 3 _ _ _ h5
 have f1:=ao w c 1 _ _ h5
 have f2:=ao w c 2 _ _ h5
 have f3:=ao w c 3 _ _ h5
 have y:=fI h5
 have s:=ae h5
 have u:=ae h6
 clear h5 h6
 have D:(tt:Int)≤cap:=by omega
 have E:tt≤cap:=by omega
 have B:¬(l.length:Int)-tt<0:=by omega
 have C:¬(l.length:Int)<tt:=by omega
 go_enter Tryz.func121,Tryz.ntmps121
 go_wp2
 go_quiet (fail)
 go_wp2
 go_region
 all_goals (go_wp2;go_quiet (fail);go_wp2)
 go_ret
 have o:=heap_setCell w c 1 (.int .i64 tt) s.out
 have q:=heap_setCell (w.setCell ⟨c,1,none⟩ (.int .i64 tt)) c 2 (.int .i64 tt) o
 have d:∀ k m,w.grownBy ((((w.drewN k).setCell ⟨c,1,none⟩ (.int .i64 tt)).setCell ⟨c,2,none⟩ (.int .i64 tt)).drewN m) (some c):=fun k m =>
  om (gC (grownBy_set ((Below.refl _ w).drewN k) 1 _) 2 _) m
 have r:∀ k m,BytesAt ((((w.drewN k).setCell ⟨c,1,none⟩ (.int .i64 tt)).setCell ⟨c,2,none⟩ (.int .i64 tt)).drewN m) (.slice (some ⟨gb,go,none⟩) l.length cap) l:=fun k m =>
  fR.grown u.out (d k m) (fun b x e=>h7 (by cases x;cases e;rfl))
 exact ⟨⟨_,rfl,BytesAt.nil _ _ _⟩,⟨q,r _ _,h7,i,h3⟩,sd (d _ _)⟩
theorem nt.part {w:World} {c gb go cap at' tt n:Nat} {l:List UInt8} (h:nt w c gb go cap at' tt l) (k:Nat) (hs:k+n≤l.length):BytesAt w (.slice (some ⟨gb,go+k,none⟩) n n) ((l.drop k).take n):=by
 have h1:=(h.bytes.sub k (k+n) (by omega) hs).cap' (cap':=n) (by omega)
 rw [show k+n-k=n by omega,List.drop_take,show k+n-k=n by omega] at h1
 exact h1
theorem AY (c gb go cap at' tt n:Nat) (l:List UInt8) (w:World) (h:nt w c gb go cap at' tt l) (d:n≤100) (hs:tt+n≤l.length) :
  Calls Tryz.prog 121 #[.pointer (some ⟨c,0,none⟩),.int .i64 (n:Nat)] w fun e w'=>(∃ v,e = .returned v∧BytesAt w' v ((l.drop tt).take n))∧nt w' c gb go cap tt (tt+n) l∧Ext (fun j=>j=c) w w':=by
 by_cases b:1≤n
 ·refine (ze c gb go cap at' tt n l w h d b hs).mono ?_
  rintro e w' ⟨rfl,h2,h3⟩
  exact ⟨⟨_,rfl,h2.part tt hs⟩,h2,h3⟩
 ·obtain rfl:n=0:=by omega
  exact Ge c gb go cap at' tt l w h hs
theorem Ed (c gb go cap at' tt:Nat) (s:List UInt8) (w:World) (h:nt w c gb go cap at' tt s) (hs:tt+8≤s.length) :
  Calls Tryz.prog 120 #[.pointer (some ⟨c,0,none⟩)] w fun e w'=>e = .returned (.int .u64 (iL ((s.drop tt).take 8)))∧nt w' c gb go cap tt (tt+8) s∧Ext (fun j=>j=c) w w':=by
 obtain ⟨l,hl⟩:∃ l,l=(s.drop tt).take 8:=⟨_,rfl⟩
 have hlen:l.length=8:=by rw [hl,aA,a8];omega
 have x:=ae hl
 rw [←hl]
 clear hl
 go_enter Tryz.func120,Tryz.ntmps120
 go_wp2_with (go_at_call 121;refine (ze c gb go cap at' tt 8 s _ h (by decide) (by decide) hs).mono ?_;rintro e w1 ⟨rfl,m,q⟩;have d:=m.part tt hs;rw [←x.out] at d;obtain ⟨a,cap',he,y,r⟩:=d.opened;have B:=ae r;clear r d)
 rw [hlen] at he
 cases he
 go_loop [3,9] (fun c i=>∃ k:Nat,k≤8∧i = .int .i64 k∧c = .int .u64 (iL (l.take k))) (fun _ i=>8-(intOf i).toNat)
 case atStart=>exact ⟨0,by omega,rfl,by simp [iL]⟩
 case round =>
  obtain ⟨k,hk,rfl,rfl⟩:=hrel
  by_cases h8:k<8
  ·have o:=qL k l (by omega)
   have hle:iL (l.take k)<256^7:=aC o (eR (by decide) (by omega))
   have H:=ae (qM l k (by omega))
   obtain ⟨b,off,C,u⟩:=B.out k (by omega)
   cases C
   have E:=(l[k]'(by omega)).toNat_lt
   generalize iL (l.take k)=v at *
   clear o
   have d:v<72057594037927936:=hle
   clear hle
   go_wp2
   go_round
   case rel =>
    refine ⟨k+1,by omega,by go_num,?_⟩
    have D:v*256 ||| (l[k]'(by omega)).toNat=v*256+(l[k]'(by omega)).toNat:=nat_join 8 _ _ (by omega) (by omega)
    rw [show ((v:Int)*256)=((v*256:Nat):Int) by omega,u64_or_nat _ _ (by omega) (by omega),D,H.out]
   case measure=>simp [intOf];omega
  ·obtain rfl:k=8:=by omega
   rw [aS (by omega)]
   go_wp2
   go_ret
   exact ⟨rfl,m,q⟩
end Go.Proofs.YtkkfmkhbdoeglaaGreatDoor
