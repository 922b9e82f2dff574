/- A part of what is proved here: lemmas and contracts of single functions. No condition but those that each names. -/
import Derived.Test.YtkkfmkhbdoeglaaGreatDoorG00
import Derived.Deep.DeepCutAuto
import Derived.RangeFuncNested
import Derived.Test.YtkkfmkhbdoeglaaGreatDoorG02
import Derived.Test.YtkkfmkhbdoeglaaGreatDoorG05
import Derived.Test.YtkkfmkhbdoeglaaGreatDoorG07
import Derived.Test.YtkkfmkhbdoeglaaGreatDoorG08
import Derived.Test.YtkkfmkhbdoeglaaGreatDoorG09
import Derived.Test.YtkkfmkhbdoeglaaGreatDoorG10
import Derived.Test.YtkkfmkhbdoeglaaGreatDoorG12
set_option maxHeartbeats 1000000
set_option maxRecDepth 100000
namespace Go.Proofs.YtkkfmkhbdoeglaaGreatDoor
open Go.RowKit Go.Extern.Stop Go.Stop Go.Extern
theorem vC {P:Program} (w:World) (d:Nat) {m tn:TypeId} {ms:Array (String×TypeId)} {i:TypeInfo} {k:IntKind} (a b:Int)
  (o:P.underlying m=some (.interface ms)) (q:P.underlying tn=some (.int k)) (j:P.info? tn=some i) (l:i.comparable=true) :
  (Op.equalIn (d+2) m (.iface tn (.int k a)) (.iface tn (.int k b))).run P w = .ok (a==b) w:=by
 simp [Op.equalIn,aN o,aN q,typeInfo,j,l]
theorem Fa (a b:Int) (w:World):(binOp .eql 101 (.iface 160 (.int .i64 a)) (.iface 160 (.int .i64 b))).run Tryz.prog w = .ok (.bool (a==b)) w:=by
 have hc:(Tryz.prog.info? 160).map (·.comparable)=some true:=by kernel_rfl
 obtain ⟨i,j,d⟩:=cw.1 hc
 have h:=vC (P:=Tryz.prog) w 9998 a b Tryz.underlying101 Tryz.underlying160 j d
 simp only [binOp]
 simp [Op.equal,Op.maxDepth,h]
theorem q7 (x y:Value) (w:World):(binOp .eql 101 (.iface 114 x) (.iface 160 y)).run Tryz.prog w = .ok (.bool false) w :=
 run_eql_iface_types _ _ _ _ Tryz.underlying101 (by decide) w
theorem tG (w : World) : (Go.method 433 257 (.agg #[.pointer (some ⟨2, 160, none⟩)]) "Comparable").run Tryz.prog w = .ok (215, .agg #[.pointer (some ⟨2, 160, none⟩)]) w := by kernel_rfl
theorem Ag (k m:Int) (w:World) :
  Calls Tryz.prog 128 #[.iface 160 (.int .i64 k),.iface 160 (.int .i64 m),.bool true] w fun e w'=>e = .returned (.bool (k==m))∧w=w':=by
 have a1:=IQ
 have a2:=Hp
 have a3:=Hq
 have he:=Fa
 cases b:(k==m)
 ·go_enter Tryz.func128,Tryz.ntmps128
  go_wp2
  refine wp_loop_rounds 1 ?_
  rw [rounds_succ]
  go_wp2
  go_ret
  exact ⟨rfl,rfl⟩
 ·go_enter Tryz.func128,Tryz.ntmps128
  go_wp2
  refine wp_loop_rounds 1 ?_
  rw [rounds_succ]
  go_wp2
  go_ret
  exact ⟨rfl,rfl⟩
theorem Fh (b:Nat) (k n m:Int) (w:World) (i:w.heap[b]?=some (.cells #[.int .i64 k,.int .i64 n,.nilIface] 166 (0,0))) :
  Calls Tryz.prog 128 #[.iface 114 (.pointer (some ⟨b,0,none⟩)),.iface 160 (.int .i64 m),.bool true] w fun e w'=>e = .returned (.bool (k==m))∧Below w.heap.size w w':=by
 have a1:=Ho
 have a2:=Di
 have a3:=yL
 have l:=mq
 have he:=q7
 cases d:(k==m)
 all_goals
  have j:=ae d
  clear d
  go_enter Tryz.func128,Tryz.ntmps128
  go_wp2
  refine wp_loop_rounds 1 ?_
  rw [rounds_succ]
  go_wp2_with (go_at_call 196;refine (uW ⟨b,0,none⟩ k _ (af _ b 0 _ _ _ i) (af _ b 2 _ _ _ i) rfl).mono ?_;rintro e w' ⟨rfl,rfl⟩)
  refine wp_loop_rounds 2 ?_
  rw [rounds_succ]
  go_wp2_with (go_at_call 128;refine (Ag k m _).mono ?_;rintro e w1 ⟨rfl,rfl⟩;rw [j.out])
 ·rw [rounds_succ]
  go_wp2
  go_ret
  exact ⟨rfl,(Below.refl _ w).alloc (ah _) _⟩
 ·go_ret
  exact ⟨rfl,(Below.refl _ w).alloc (ah _) _⟩
theorem zu (b:Nat) (k n m:Int) (w:World) (i:w.heap[b]?=some (.cells #[.int .i64 k,.int .i64 n,.nilIface] 166 (0,0))) :
  Calls Tryz.prog 88 #[.iface 114 (.pointer (some ⟨b,0,none⟩)),.iface 160 (.int .i64 m)] w fun e w'=>e = .returned (.bool (k==m))∧Below w.heap.size w w':=by
 have j := @run_callFunc_extern Tryz.prog 127 _ ReflectliteType.typeOf Tryz.func127 (by kernel_rfl) (by kernel_rfl) (by kernel_rfl) (by kernel_rfl)
 have l := @run_callFunc_extern Tryz.prog 215 _ (ReflectliteType.method fun t => do Rtype.noPackHeld "Comparable" t; pure (.bool (← typeInfo t).comparable)) Tryz.func215 (by kernel_rfl) (by kernel_rfl) (by kernel_rfl) (by kernel_rfl)
 have o : ∀ w, (ReflectliteType.method (fun t => do Rtype.noPackHeld "Comparable" t; (fun a : TypeInfo => Value.bool a.comparable) <$> typeInfo t) #[.agg #[.pointer (some ⟨2, 160, none⟩)]]).run Tryz.prog w = .ok (.bool true) w := fun w => by kernel_rfl
 have q:=zh
 have r:=tG
 go_enter Tryz.func88,Tryz.ntmps88
 go_wp2_with (go_at_call 128;refine (Fh b k n m _ i).mono ?_;rintro e w1 ⟨rfl,d⟩)
 go_ret
 exact ⟨rfl,d⟩
end Go.Proofs.YtkkfmkhbdoeglaaGreatDoor
namespace Go.Proofs.YtkkfmkhbdoeglaaGreatDoor
open Go.RowKit Go.Extern.Stop Go.Stop Go.Extern
theorem oH (w:World):Calls Tryz.prog 45 #[.nilIface] w fun e w'=>e = .returned (.agg #[.int .i64 0,.int .i64 0,.int .i64 0])∧Below w.heap.size w w':=by
 go_enter Tryz.func45,Tryz.ntmps45
 go_wp2
 exact aK (v := .agg #[.int .i64 0,.int .i64 0,.int .i64 0]) (by simp [results,Tryz.results45,go_sem]) rfl ⟨rfl,(Below.refl _ w).alloc (ah _) _⟩
theorem si (e t:Addr) (w:World):Ext (fun k=>k=t.block) w (sR e t w) :=
 Ext.setCell (((((Ext.refl _ w).alloc _).alloc _).alloc _).alloc _) t _ (.inl rfl)
theorem uH (e:Addr) (t:Nat) (w:World) {T:TypeId} {fW:Value} (h:w.heap[t]?=some (.cells #[fW] T (0,0))):(sR e ⟨t,0,none⟩ w).heap[t]?=some (.cells #[.pointer (some e)] T (0,0)) :=
 heap_setCell _ t 0 _ (fQ _ _ (fQ _ _ (fQ _ _ (fQ _ _ h))))
theorem nT (b:Nat) (k n:Int) (w:World) (S:ErrVar w) (D:w.heap[b]?=some (.cells #[.int .i64 k,.int .i64 n,.nilIface] 166 (0,0))) (h1:1≤k) (h2:k≤14) :
  Calls Tryz.prog 45 #[.iface 114 (.pointer (some ⟨b,0,none⟩))] w fun e w'=>e = .returned (.agg #[.int .i64 k,.int .i64 n,.int .i64 0])∧Below w.heap.size w w':=by
 have I:=fI D
 have U:∀ o,(w.alloc (.cells #[.int .i64 0,.int .i64 0,.int .i64 0] 38)).heap[w.heap.size+1]?=o→True:=fun _ _=>cM
 clear U
 go_enter Tryz.func45,Tryz.ntmps45
 go_wp2_with fail
 generalize q:(w.alloc (.cells #[.int .i64 0,.int .i64 0,.int .i64 0] 38)).alloc (.cells #[.pointer none] 114)=s
 have V:s.heap.size=w.heap.size+1+1:=by rw [←q];simp
 have e0:Below w.heap.size w s:=by rw [←q];exact ((Below.refl _ w).alloc (ah _) _).alloc (by simp) _
 have r0:s.heap[w.heap.size]?=some (.cells #[.int .i64 0,.int .i64 0,.int .i64 0] 38 (0,0)):=by rw [←q];exact fQ _ _ (fL w _)
 have t0:s.heap[w.heap.size+1]?=some (.cells #[.pointer none] 114 (0,0)):=by rw [←q];have:=fL (w.alloc (.cells #[.int .i64 0,.int .i64 0,.int .i64 0] 38)) (.cells #[.pointer none] 114);simpa using this
 clear q
 refine (uD ⟨b,0,none⟩ ⟨w.heap.size+1,0,none⟩ (.pointer none) s (S.new e0).2 (af _ _ 0 _ _ _ t0) (by rw [ao _ _ 0 _ _ t0]) ).mono ?_
 rintro e w1 ⟨rfl,J⟩
 have E:=si ⟨b,0,none⟩ ⟨w.heap.size+1,0,none⟩ s
 have t1:=uH ⟨b,0,none⟩ (w.heap.size+1) s t0
 rw [←J] at E t1
 clear J
 have M:Below w.heap.size w w1:=e0.trans (E.below (by omega) (fun k hk e=>by simp only at e;omega))
 have F:=fK M I D
 have c1:w1.cell? ⟨w.heap.size+1,0,none⟩=some (.pointer (some ⟨b,0,none⟩)):=af _ _ 0 _ _ _ t1
 have k1:w1.cell? ⟨b,0,none⟩=some (.int .i64 k):=af _ _ 0 _ _ _ F
 have n1:w1.cell? ⟨b,1,none⟩=some (.int .i64 n):=af _ _ 1 _ _ _ F
 have a1:(k==0)=false:=by rw [aD];omega
 have S1:=ae V
 have a2:w.heap.size+2≤w1.heap.size:=by have:=E.size;omega
 have HB:=ae D
 have N:=ae F
 have O:=ae t1
 have R1:=ae (E.at (fun e=>by simp only at e;omega) r0)
 clear V D F t1 r0 t0
 go_wp2
 go_loopw [4] (fun c wr=>∃ m:Nat,m≤15∧c = .int .i64 m∧Below w1.heap.size w1 wr) (fun c _=>15-(intOf c).toNat)
 case atStart=>exact ⟨0,by omega,rfl,Below.refl _ _⟩
 case round =>
  obtain ⟨m,hm,rfl,i⟩:=hrel
  have Q:=i.size
  have B:=ae (fK i (fI N.out) N.out)
  have R:=ae (fK i (fI O.out) O.out)
  have W:wr.cell? ⟨w.heap.size+1,0,none⟩=some (.pointer (some ⟨b,0,none⟩)):=af _ _ 0 _ _ _ R.out
  have X:wr.cell? ⟨b,0,none⟩=some (.int .i64 k):=af _ _ 0 _ _ _ B.out
  have nr:wr.cell? ⟨b,1,none⟩=some (.int .i64 n):=af _ _ 1 _ _ _ B.out
  clear c1 k1 n1
  by_cases al:m<15
  ·by_cases j:k=(m:Int)
   ·have Y:(k==(m:Int))=true:=bj.2 j
    have Z:((m:Int)==k)=true:=bj.2 j.symm
    clear j
    go_wp2
    go_region_held3 (fun w'=>w'.cell? ⟨w.heap.size+1,0,none⟩=some (.pointer (some ⟨b,0,none⟩))∧w'.cell? ⟨b,0,none⟩=some (.int .i64 k))
     (first | go_keep | exact ⟨(d.cell (p:=⟨w.heap.size+1,0,none⟩) (fI R.out)).trans W,(d.cell (p:=⟨b,0,none⟩) (fI B.out)).trans X⟩)
     ((go_at_call 88;refine (zu b k n m _ (by exact B.out)).mono ?_;rintro e w2 ⟨rfl,d⟩))
    go_wp2
    go_roundw
    case rel=>exact ⟨m+1,by omega,by go_num,i.trans (Below.mono ⟨d.os,d.tape,d.output,d.size,d.block⟩ Q)⟩
    case measure=>simp [intOf];omega
   ·have Y:(k==(m:Int))=false:=aD.2 j
    have Z:((m:Int)==k)=false:=aD.2 (fun e=>j e.symm)
    clear j
    go_wp2
    go_region_held3 (fun w'=>w'.cell? ⟨w.heap.size+1,0,none⟩=some (.pointer (some ⟨b,0,none⟩))∧w'.cell? ⟨b,0,none⟩=some (.int .i64 k))
     (first | go_keep | exact ⟨(d.cell (p:=⟨w.heap.size+1,0,none⟩) (fI R.out)).trans W,(d.cell (p:=⟨b,0,none⟩) (fI B.out)).trans X⟩)
     ((go_at_call 88;refine (zu b k n m _ (by exact B.out)).mono ?_;rintro e w2 ⟨rfl,d⟩))
    go_wp2
    go_roundw
    case rel=>exact ⟨m+1,by omega,by go_num,i.trans (Below.mono ⟨d.os,d.tape,d.output,d.size,d.block⟩ Q)⟩
    case measure=>simp [intOf];omega
  ·obtain rfl:m=15:=by omega
   go_wp2
   go_region_held3 (fun w'=>w'.cell? ⟨w.heap.size+1,0,none⟩=some (.pointer (some ⟨b,0,none⟩))∧w'.cell? ⟨b,0,none⟩=some (.int .i64 k)∧w'.cell? ⟨b,1,none⟩=some (.int .i64 n))
    (first | go_keep) (fail)
   go_wp2_with fail
   generalize y:((wr.alloc (.cells #[.int .i64 k,.int .i64 n,.int .i64 0] 38)).alloc (.cells #[.pointer none] 168)).drew=w3
   have e3:Below wr.heap.size wr w3:=by rw [←y];exact (((Below.refl _ wr).alloc (ah _) _).alloc (by simp) _).drew
   have s3:w3.heap.size=wr.heap.size+1+1:=by rw [←y];simp
   have f3:w3.heap[wr.heap.size]?=some (.cells #[.int .i64 k,.int .i64 n,.int .i64 0] 38 (0,0)):=by rw [←y];exact fQ _ _ (fL wr _)
   clear y
   have l:Below w.heap.size w w3:=(M.trans (i.mono (by omega))).trans (e3.mono (by omega))
   have u:w3.heap[w.heap.size]?=some (.cells #[.int .i64 0,.int .i64 0,.int .i64 0] 38 (0,0)):=fK e3 (by omega) (fK i (by omega) R1.out)
   refine (Gp b k n ⟨wr.heap.size+1,0,none⟩ w3 (fK l I HB.out) (S.new l).2).mono ?_
   rintro e C ⟨rfl,r⟩
   have G:=l.trans (r.mono (by have:=l.size;omega))
   have f40:C.cell? ⟨wr.heap.size,0,none⟩=some (.int .i64 k):=af _ _ 0 _ _ _ (fK r (fI f3) f3)
   have f41:C.cell? ⟨wr.heap.size,1,none⟩=some (.int .i64 n):=af _ _ 1 _ _ _ (fK r (fI f3) f3)
   have f42:C.cell? ⟨wr.heap.size,2,none⟩=some (.int .i64 0):=af _ _ 2 _ _ _ (fK r (fI f3) f3)
   have x:=fK r (fI u) u
   have ab:C.cell? ⟨w.heap.size,0,none⟩=some (.int .i64 0):=af _ _ 0 _ _ _ x
   have ag:C.cell? ⟨w.heap.size,1,none⟩=some (.int .i64 0):=af _ _ 1 _ _ _ x
   have ak:C.cell? ⟨w.heap.size,2,none⟩=some (.int .i64 0):=af _ _ 2 _ _ _ x
   have z0:=ao _ _ 0 _ _ x
   have z1:=ao _ _ 1 _ _ x
   have z2:=ao _ _ 2 _ _ x
   clear f3 u x s3
   go_wp2
   refine aK (v := .agg #[.int .i64 k,.int .i64 n,.int .i64 0]) (by simp [results,Tryz.results45,go_sem,ab,ag,ak]) rfl ⟨rfl,?_⟩
   exact ((G.setCell (p:=⟨w.heap.size,0,none⟩) (ah _) _).setCell (p:=⟨w.heap.size,1,none⟩) (ah _) _).setCell (p:=⟨w.heap.size,2,none⟩) (ah _) _
end Go.Proofs.YtkkfmkhbdoeglaaGreatDoor
namespace Go.Proofs.YtkkfmkhbdoeglaaGreatDoor
open Go.RowKit
def ku (k n s:Int):Value := .agg #[.int .i64 k,.int .i64 n,.int .i64 s]
def uC (l:List UInt8):Value :=
 match gX l with
 | .inl (k,p) => .tuple #[.int .i64 k.toNat,.string ⟨p.toArray⟩,ku 0 0 0]
 | .inr (k,n) => .tuple #[.int .i64 0,.string ⟨[].toArray⟩,ku k n 0]
theorem zk (l:List UInt8) {k n:Nat} (h:gX l = .inr (k,n)):1≤k∧k≤14:=by
 by_cases hl:l.length<5
 ·unfold gX at h
  rw [aF hl] at h
  cases h;omega
 ·obtain ⟨x,p,a,b,c,d,rfl⟩:=uh l hl
  rw [nh] at h
  split at h
  ·cases h
  ·cases h;omega
theorem zy (v:Value) (l:List UInt8) (k:UInt8) (p:List UInt8) (w:World) (b:BytesAt w v l) (hl:l.length≤gx) (hu:gX l = .inl (k,p)) :
  Calls Tryz.prog 52 #[v] w fun e w'=>∃ v',e = .returned (.tuple #[.int .u8 k.toNat,v',.nilIface])∧OwnS w' w.heap.size 1 v' p.length (u8s p)∧Below w.heap.size w w' :=
 (rA v l w b hl).mono fun e w' ⟨d,h⟩=>by
  rw [hu] at h
  obtain ⟨v',h1,h2⟩:=h
  exact ⟨v',h1,h2,d⟩
theorem Bp (v:Value) (l:List UInt8) (k n:Nat) (w:World) (b:BytesAt w v l) (hl:l.length≤gx) (hu:gX l = .inr (k,n)) :
  Calls Tryz.prog 52 #[v] w fun e w'=>∃ ev,e = .returned (.tuple #[.int .u8 0,.slice none 0 0,ev])∧iT w' w.heap.size ev k n∧Below w.heap.size w w' :=
 (rA v l w b hl).mono fun e w' ⟨d,h⟩=>by
  rw [hu] at h
  obtain ⟨v',h1,h2⟩:=h
  exact ⟨v',h1,h2,d⟩
theorem te (l:List UInt8) (k:UInt8) (p:List UInt8) (w:World) (hl:l.length≤gx) (hu:gX l = .inl (k,p)) :
  Calls Tryz.prog 19 #[.string ⟨l.toArray⟩] w fun e w'=>e = .returned (.tuple #[.int .i64 k.toNat,.string ⟨p.toArray⟩,ku 0 0 0])∧Below w.heap.size w w':=by
 have F:=ae hu
 clear hu
 have hk:=k.toNat_lt
 go_enter Tryz.func19,Tryz.ntmps19
 go_wp2_with (first
  | (refine lr rfl (.tmp 9) rfl l rfl hl ?_;intro cap w1 m o y;simp only [ax] at m o y)
  | (go_at_call 52;refine (zy _ l k p _ m.bytes hl F.out).mono ?_;rintro e w2 ⟨v2,rfl,j,q⟩))
 have s:w2.heap[w.heap.size]?=some (.cells #[.int .i64 0,.int .i64 0,.int .i64 0] 38 (0,0)):=fK q (by omega) (fK o (by omega) (fL w _))
 have G:=q.size
 have u:Below w.heap.size w w2:=((Below.refl _ w).alloc (ah _) _).trans ((o.mono (by omega)).trans (q.mono (by omega)))
 have i:=ae s
 have I:IntKind.i64.wrap (k.toNat:Int)=(k.toNat:Int):=IntWalk.i64_in _ (by omega)
 have r:=j.apart (b:=w.heap.size) (by omega)
 clear s
 go_region_held3 (fun w'=>Sem.run Tryz.prog (convert 59 9 v2) w' = .ok (.string ⟨p.toArray⟩) w')
  (first
   | exact BytesAt.convert (w:=w2.drew) j.bytes
   | exact BytesAt.convert B
   | exact BytesAt.convert (((B.gh _ _ r).gh _ _ r).gh _ _ r))
  ((go_at_call 45;refine (oH _).mono ?_;rintro e w3 ⟨rfl,d⟩;
    have B:BytesAt w3 v2 p:=BytesAt.below (w:=w2.drew) j.bytes d;
    have C:w3.cell? ⟨w.heap.size,0,none⟩=some (.int .i64 0):=af _ _ 0 _ _ _ (fK d (fI i.out) i.out);
    have D:w3.cell? ⟨w.heap.size,1,none⟩=some (.int .i64 0):=af _ _ 1 _ _ _ (fK d (fI i.out) i.out);
    have E:w3.cell? ⟨w.heap.size,2,none⟩=some (.int .i64 0):=af _ _ 2 _ _ _ (fK d (fI i.out) i.out);
    have J:w3.frozen? ⟨w.heap.size,0,none⟩=false:=ao _ _ 0 _ _ (fK d (fI i.out) i.out);
    have M:w3.frozen? ⟨w.heap.size,1,none⟩=false:=ao _ _ 1 _ _ (fK d (fI i.out) i.out);
    have N:w3.frozen? ⟨w.heap.size,2,none⟩=false:=ao _ _ 2 _ _ (fK d (fI i.out) i.out)))
 go_wp2
 refine aK (v := .tuple #[.int .i64 k.toNat,.string ⟨p.toArray⟩,.agg #[.int .i64 0,.int .i64 0,.int .i64 0]]) (by simp [results,Tryz.results19,go_sem,C,D,E]) rfl ⟨rfl,?_⟩
 have x:Below w.heap.size w2 w3:=⟨d.os,d.tape,d.output,d.size,fun k hk=>d.block k (aC hk u.size)⟩
 exact (((u.trans x).setCell (p:=⟨w.heap.size,0,none⟩) (ah _) _).setCell (p:=⟨w.heap.size,1,none⟩) (ah _) _).setCell (p:=⟨w.heap.size,2,none⟩) (ah _) _
theorem uu (l:List UInt8) (k n:Nat) (w:World) (D:ErrVar w) (hl:l.length≤gx) (hu:gX l = .inr (k,n)) :
  Calls Tryz.prog 19 #[.string ⟨l.toArray⟩] w fun e w'=>e = .returned (.tuple #[.int .i64 0,.string ⟨[].toArray⟩,ku k n 0])∧Below w.heap.size w w':=by
 have u:=ae hu
 clear hu
 have hk:=zk l u.out
 go_enter Tryz.func19,Tryz.ntmps19
 go_wp2_with (first
  | (refine lr rfl (.tmp 9) rfl l rfl hl ?_;intro cap w1 i j x;simp only [ax] at i j x)
  | (go_at_call 52;refine (Bp _ l k n _ i.bytes hl u.out).mono ?_;rintro e w2 ⟨ev,rfl,⟨g,rfl,F,q⟩,m⟩;have E:=ae q;clear q))
 have r:w2.heap[w.heap.size]?=some (.cells #[.int .i64 0,.int .i64 0,.int .i64 0] 38 (0,0)):=fK m (by omega) (fK j (by omega) (fL w _))
 have G:=m.size
 have o:Below w.heap.size w w2:=((Below.refl _ w).alloc (ah _) _).trans ((j.mono (by omega)).trans (m.mono (by omega)))
 have d:=ae r
 have I:IntKind.i64.wrap 0=0:=by decide
 clear r
 go_region_held3 (fun w'=>Sem.run Tryz.prog (convert 59 9 (.slice none 0 0)) w' = .ok (.string ⟨[].toArray⟩) w')
  (exact BytesAt.convert (BytesAt.nil _ _ _))
  ((go_at_call 45;refine (nT g k n _ (by exact (D.new o.drew)) (by exact E.out) (by omega) (by omega)).mono ?_;rintro e w3 ⟨rfl,b⟩;
    have y:w3.cell? ⟨w.heap.size,0,none⟩=some (.int .i64 0):=af _ _ 0 _ _ _ (fK b (fI d.out) d.out);
    have B:w3.cell? ⟨w.heap.size,1,none⟩=some (.int .i64 0):=af _ _ 1 _ _ _ (fK b (fI d.out) d.out);
    have C:w3.cell? ⟨w.heap.size,2,none⟩=some (.int .i64 0):=af _ _ 2 _ _ _ (fK b (fI d.out) d.out);
    have J:w3.frozen? ⟨w.heap.size,0,none⟩=false:=ao _ _ 0 _ _ (fK b (fI d.out) d.out);
    have M:w3.frozen? ⟨w.heap.size,1,none⟩=false:=ao _ _ 1 _ _ (fK b (fI d.out) d.out);
    have N:w3.frozen? ⟨w.heap.size,2,none⟩=false:=ao _ _ 2 _ _ (fK b (fI d.out) d.out)))
 go_wp2
 refine aK (v := .tuple #[.int .i64 0,.string ⟨[].toArray⟩,.agg #[.int .i64 k,.int .i64 n,.int .i64 0]]) (by simp [results,Tryz.results19,go_sem,y,B,C]) rfl ⟨rfl,?_⟩
 have s:Below w.heap.size w2 w3:=⟨b.os,b.tape,b.output,b.size,fun k hk=>b.block k (aC hk o.size)⟩
 exact (((o.trans s).setCell (p:=⟨w.heap.size,0,none⟩) (ah _) _).setCell (p:=⟨w.heap.size,1,none⟩) (ah _) _).setCell (p:=⟨w.heap.size,2,none⟩) (ah _) _
theorem ur (l:List UInt8) (w:World) (d:ErrVar w) (hl:l.length≤gx) :
  Calls Tryz.prog 19 #[.string ⟨l.toArray⟩] w fun e w'=>e = .returned (uC l)∧Below w.heap.size w w':=by
 cases h:gX l with
 | inl x =>
  refine (te l x.1 x.2 w hl h).mono fun e w' ⟨he,b⟩=>⟨?_,b⟩
  unfold uC
  rw [h]
  exact he
 | inr x =>
  refine (uu l x.1 x.2 w d hl h).mono fun e w' ⟨he,b⟩=>⟨?_,b⟩
  unfold uC
  rw [h]
  exact he
end Go.Proofs.YtkkfmkhbdoeglaaGreatDoor
namespace Go.Proofs.YtkkfmkhbdoeglaaGreatDoor
open Go.RowKit
def ji (c n:Int):Int:=if c<0 then (-(c+1))%n else c%n
theorem iP (c n:Int) (b:0<n):0≤ji c n∧ji c n<n:=by
 unfold ji
 split
 ·exact ⟨Int.emod_nonneg _ (by omega),Int.emod_lt_of_pos _ b⟩
 ·exact ⟨Int.emod_nonneg _ (by omega),Int.emod_lt_of_pos _ b⟩
end Go.Proofs.YtkkfmkhbdoeglaaGreatDoor
namespace Go.Proofs.YtkkfmkhbdoeglaaGreatDoor
open Go.RowKit
theorem pL (q r:Nat) (S:List E) (v:Nat) (b:Value) (os:List OpB) (w:World) (_he:EntAt w q 0 r S) (hs:iu w b os) (u:ShapesVar w) (i:jP os) (f:Nat×Nat) (hw:gB v os=some f) :
  Calls Tryz.prog 55 #[.pointer (some ⟨q,0,none⟩),.agg #[.int .u64 v,b]] w fun e w'=>∃ ev,e = .returned ev∧iT w' w.heap.size ev f.1 f.2∧Below w.heap.size w w':=by
 have j:iu (w.alloc (.cells #[.int .u64 (v:Int),b] 34)) b os:=hs.below ((Below.refl _ w).alloc (ah _) _)
 have x:=ae hw
 clear hw
 go_enter Tryz.func55,Tryz.ntmps55
 go_wp2_with fail
 refine (nM v b os _ j (u.alloc _) i).mono ?_
 rintro e w1 ⟨⟨rr,rfl,fp,rfl,l⟩,m⟩
 rw [x.out] at l
 obtain ⟨g,rfl,o,d⟩:=l
 have s:=ae d
 clear d
 go_wp2
 go_ret
 exact ⟨_,rfl,⟨g,rfl,by simp at o;omega,s.out⟩,((Below.refl _ w).alloc (ah _) _).trans (m.mono (by simp))⟩
theorem oL (q r:Nat) (S:List E) (v:Nat) (b:Value) (os:List OpB) (w:World) (he:EntAt w q 0 r S) (hs:iu w b os) (D:ShapesVar w) (s:jP os) (hw:gB v os=none) :
  Calls Tryz.prog 55 #[.pointer (some ⟨q,0,none⟩),.agg #[.int .u64 v,b]] w fun e w'=>e = .returned .nilIface∧TabAt w' r (foldS S os)∧Ext (fun i=>i=r) w w':=by
 have j:Below w.heap.size w (w.alloc (.cells #[.int .u64 (v:Int),b] 34)):=(Below.refl _ w).alloc (ah _) _
 have l:iu (w.alloc (.cells #[.int .u64 (v:Int),b] 34)) b os:=hs.below j
 have h8:os.length≤8:=by
  unfold gB at hw
  split at hw
  ·cases hw
  ·split at hw
   ·cases hw
   ·rename_i h1 h2;omega
 have F:=ae hw
 have D0:=ae (fL w (.cells #[.int .u64 (v:Int),b] 34))
 have G:=ae (he.below j)
 clear hw he
 have I:=ae l
 go_enter Tryz.func55,Tryz.ntmps55
 go_wp2_with fail
 refine (nM v b os _ l (D.alloc _) s).mono ?_
 rintro e w1 ⟨⟨rr,rfl,fp,rfl,u⟩,d⟩
 rw [F.out] at u
 obtain rfl:fp=none:=u
 have x:=ae (fK d (by simp) D0.out)
 have d0:=af _ _ 0 _ _ _ x.out
 have d1:=af _ _ 1 _ _ _ x.out
 have m:=ae (G.out.below d)
 have y:=ae (I.out.below d)
 have J:Below w.heap.size w w1:=j.trans (d.mono (by simp))
 clear l hs
 go_wp2
 go_still_tail 4,(by kernel_rfl)
 go_wp2_with fail
 refine (sK q 0 r S v b os w1.drew ⟨m.out.cell,m.out.tab.fW rfl⟩ (y.out.below ((Below.refl _ w1).drew)) (by omega)).mono ?_
 rintro e w2 ⟨rfl,o,B⟩
 have C:=ae o
 clear o
 go_wp2
 go_ret
 exact ⟨rfl,C.out,((Ext.fM J).drew).trans B⟩
structure jO (w:World) (fb q r:Nat) (S:List E):Prop where
 cell:w.cell? ⟨fb,0,none⟩=some (.pointer (some ⟨q,0,none⟩))
 ent:EntAt w q 0 r S
theorem jO.below {w w':World} {fb q r:Nat} {S:List E} (h:jO w fb q r S) (b:Below w.heap.size w w'):jO w' fb q r S :=
 ⟨(b.cell (p:=⟨fb,0,none⟩) (fP h.cell)).trans h.cell,h.ent.below b⟩
theorem jO.step {w w':World} {fb q r:Nat} {S T:List E} (h:jO w fb q r S) (b:Ext (fun i=>i=r) w w') (d:TabAt w' r T):jO w' fb q r T:=⟨b.cell (mX h.cell h.ent.tab) h.cell,h.ent.step b d⟩
theorem jO.other {w w':World} {fb q r b:Nat} {S:List E} (h:jO w fb q r S) (d:Ext (fun i=>i=b) w w') (j:fb≠b) (hq:q≠b) (l:r≠b):jO w' fb q r S :=
 ⟨d.cell j h.cell,d.cell hq h.ent.cell,h.ent.tab.fW (d.block r h.ent.tab.lt l)⟩
theorem rm (w:World) :
  Calls Tryz.prog 22 #[] w fun e w'=>e = .returned (.tuple #[.pointer (some ⟨w.heap.size+2,0,none⟩),.bool true])∧jO w' (w.heap.size+2) (w.heap.size+1) w.heap.size []∧Below w.heap.size w w':=by
 go_enter Tryz.func22,Tryz.ntmps22
 go_wp2_with fail
 refine (kX _).mono ?_
 rintro e w1 ⟨rfl,he,b,d⟩
 have j:=ae he
 have i:=ae d
 clear he d
 go_wp2
 go_ret2
 rw [i.out]
 have hc:=lS w1 #[.pointer (some ⟨w.heap.size+1,0,none⟩)] 129 (0,0) 0
 rw [i.out] at hc
 exact ⟨rfl,⟨hc,j.out.below ((Below.refl _ w1).alloc (ah _) _)⟩,b.alloc b.size _⟩
def j8 (v:Nat) (S:List E) (os:List OpB):List E:=match gB v os with
 | none=>foldS S os
 | some _=>S
def ve (v:Nat) (os:List OpB):Value:=match gB v os with
 | none=>ku 0 0 0
 | some f=>ku f.1 f.2 0
theorem pD (fb q r:Nat) (S:List E) (v:Nat) (C:Value) (os:List OpB) (w:World) (he:jO w fb q r S) (hs:iu w C os) (hg:ShapesVar w) (O:ErrVar w) (D:jP os) (_hr:2≤r) :
  Calls Tryz.prog 23 #[.pointer (some ⟨fb,0,none⟩),.agg #[.int .u64 v,C]] w fun e w'=>e = .returned (ve v os)∧TabAt w' r (j8 v S os)∧Ext (fun i=>i=r) w w':=by
 have d:Below w.heap.size w ((w.alloc (.cells #[.int .u64 (v:Int),C] 34)).alloc (.cells #[.int .i64 0,.int .i64 0,.int .i64 0] 38)):=((Below.refl _ w).alloc (ah _) _).alloc (by simp) _
 have X:=fL (w.alloc (.cells #[.int .u64 (v:Int),C] 34)) (.cells #[.int .i64 0,.int .i64 0,.int .i64 0] 38)
 rw [ax] at X
 have y:=ae X
 have s:=ae (he.below d)
 have F:=ae (hs.below d)
 have G:=ae (hg.new d)
 have I:=ae (O.new d)
 have HR:Hid (r<w.heap.size):=ae he.ent.tab.lt
 have D0:=ae (fQ (w.alloc (.cells #[.int .u64 (v:Int),C] 34)) (.cells #[.int .i64 0,.int .i64 0,.int .i64 0] 38) (fL w (.cells #[.int .u64 (v:Int),C] 34)))
 obtain ⟨sa,Y,rfl,-⟩:=hs.opened
 clear X he hs hg O
 go_enter Tryz.func23,Tryz.ntmps23
 go_wp2
 generalize Q:(w.alloc (.cells #[.int .u64 (v:Int),.slice sa os.length Y] 34)).alloc (.cells #[.int .i64 0,.int .i64 0,.int .i64 0] 38)=o
 rw [Q] at y s F G I d D0
 clear Q
 have a1:=d.size
 have d0:=af _ _ 0 _ _ _ D0.out
 have d1:=af _ _ 1 _ _ _ D0.out
 have hc:=s.out.cell
 have ap:=fI y.out
 go_still_tail 5,(by kernel_rfl)
 go_wp2_with fail
 have j:Below o.heap.size o o.drew:=(Below.refl _ o).drew
 cases hw:gB v os with
 | none =>
  have J:=ae hw
  refine (oL q r S v _ os o.drew (s.out.below j).ent (F.out.below j) (G.out.new j) D hw).mono ?_
  clear hw
  rintro e w1 ⟨rfl,R,U⟩
  have u:=ae R
  clear R hc d0 d1
  have l:w.heap.size+1≠r:=by have:=HR.out;omega
  have x:=ae (U.at l (show o.drew.heap[w.heap.size+1]?=_ from y.out))
  go_wp2_with fail
  refine (oH _).mono ?_
  rintro e w2 ⟨rfl,m⟩
  have b:=ae (fK m (fI x.out) x.out)
  have r0:=af _ _ 0 _ _ _ b.out
  have r1:=af _ _ 1 _ _ _ b.out
  have r2:=af _ _ 2 _ _ _ b.out
  have f0:=ao _ _ 0 _ _ b.out
  have f1:=ao _ _ 1 _ _ b.out
  have f2:=ao _ _ 2 _ _ b.out
  have av:=fI b.out
  have Z:=af _ _ 0 _ _ _ (heap_setCell _ _ 2 (.int .i64 0) (heap_setCell _ _ 1 (.int .i64 0) (heap_setCell _ _ 0 (.int .i64 0) b.out)))
  have x1:=af _ _ 1 _ _ _ (heap_setCell _ _ 2 (.int .i64 0) (heap_setCell _ _ 1 (.int .i64 0) (heap_setCell _ _ 0 (.int .i64 0) b.out)))
  have x2:=af _ _ 2 _ _ _ (heap_setCell _ _ 2 (.int .i64 0) (heap_setCell _ _ 1 (.int .i64 0) (heap_setCell _ _ 0 (.int .i64 0) b.out)))
  have M:Ext (fun i=>i=r) w w2:=(((Ext.fM d).drew).trans U).qj m
  have V:=u.out.fW (m.block r u.out.lt)
  have HV:Hid (ve v os=ku 0 0 0):=ae (by unfold ve;rw [J.out])
  have HS:Hid (j8 v S os=foldS S os):=ae (by unfold j8;rw [J.out])
  have N:=ae V
  clear V
  go_wp2
  refine aK (v := .agg #[.int .i64 0,.int .i64 0,.int .i64 0]) (by simp [results,Tryz.results23,go_sem,Z,x1,x2]) rfl ⟨by rw [HV.out];rfl,?_,?_⟩
  ·rw [HS.out]
   refine N.out.fW ?_
   rw [Below.heap_setCell _ ⟨w.heap.size+1,2,none⟩ _ r (dx l),Below.heap_setCell _ ⟨w.heap.size+1,1,none⟩ _ r (dx l),Below.heap_setCell _ ⟨w.heap.size+1,0,none⟩ _ r (dx l)]
  ·exact ((M.setCell _ _ (.inr (by simp))).setCell _ _ (.inr (by simp))).setCell _ _ (.inr (by simp))
 | some f =>
  have hk:=qy hw
  have J:=ae hw
  refine (pL q r S v _ os o.drew (s.out.below j).ent (F.out.below j) (G.out.new j) D f hw).mono ?_
  clear hw
  rintro e w1 ⟨ev,rfl,⟨gf,rfl,a2,W⟩,B⟩
  obtain ⟨f1,f2⟩:=f
  have aE:=ae W
  have x:=ae (fK B (show _<o.drew.heap.size from ap) (show o.drew.heap[w.heap.size+1]?=_ from y.out))
  have ak:=ae ((I.out.new j).new B)
  have u:=ae ((s.out.below j).below B).ent.tab
  clear W hc d0 d1
  go_wp2_with fail
  refine (nT gf f1 f2 _ ak.out aE.out (by omega) (by omega)).mono ?_
  rintro e w2 ⟨rfl,m⟩
  have b:=ae (fK m (fI x.out) x.out)
  have r0:=af _ _ 0 _ _ _ b.out
  have r1:=af _ _ 1 _ _ _ b.out
  have r2:=af _ _ 2 _ _ _ b.out
  have g0:=ao _ _ 0 _ _ b.out
  have g1:=ao _ _ 1 _ _ b.out
  have g2:=ao _ _ 2 _ _ b.out
  have av:=fI b.out
  have l:w.heap.size+1≠r:=by have:=HR.out;omega
  have Z:=af _ _ 0 _ _ _ (heap_setCell _ _ 2 (.int .i64 0) (heap_setCell _ _ 1 (.int .i64 f2) (heap_setCell _ _ 0 (.int .i64 f1) b.out)))
  have x1:=af _ _ 1 _ _ _ (heap_setCell _ _ 2 (.int .i64 0) (heap_setCell _ _ 1 (.int .i64 f2) (heap_setCell _ _ 0 (.int .i64 f1) b.out)))
  have x2:=af _ _ 2 _ _ _ (heap_setCell _ _ 2 (.int .i64 0) (heap_setCell _ _ 1 (.int .i64 f2) (heap_setCell _ _ 0 (.int .i64 f1) b.out)))
  have M:Ext (fun i=>i=r) w w2:=(((Ext.fM d).drew).qj B).qj m
  have N:=ae (u.out.fW (m.block r u.out.lt))
  have HV:Hid (ve v os=ku f1 f2 0):=ae (by unfold ve;rw [J.out])
  have HS:Hid (j8 v S os=S):=ae (by unfold j8;rw [J.out])
  go_wp2
  refine aK (v := .agg #[.int .i64 f1,.int .i64 f2,.int .i64 0]) (by simp [results,Tryz.results23,go_sem,Z,x1,x2]) rfl ⟨by rw [HV.out];rfl,?_,?_⟩
  ·rw [HS.out]
   refine N.out.fW ?_
   rw [Below.heap_setCell _ ⟨w.heap.size+1,2,none⟩ _ r (dx l),Below.heap_setCell _ ⟨w.heap.size+1,1,none⟩ _ r (dx l),Below.heap_setCell _ ⟨w.heap.size+1,0,none⟩ _ r (dx l)]
  ·exact ((M.setCell _ _ (.inr (by simp))).setCell _ _ (.inr (by simp))).setCell _ _ (.inr (by simp))
end Go.Proofs.YtkkfmkhbdoeglaaGreatDoor
namespace Go.Proofs.YtkkfmkhbdoeglaaGreatDoor
open Go.RowKit
theorem CR (l:List E) (x:E):sizeS (l++[x])=sizeS l+(1+x.1.2.length+x.2.length):=by simp [sizeS]
theorem wy {l m:List E} (h:l.Perm m):sizeS l=sizeS m:=(h.map _).sum_nat
theorem Es {l m:List E} (b:l.Nodup) (h:∀ x∈l,x∈m):sizeS l≤sizeS m:=by
 classical
 induction l generalizing m with
 | nil=>exact aL _
 | cons x l ih =>
  rw [dw] at b
  have i:=List.perm_cons_erase (h x (by simp))
  rw [wy i]
  have:=ih (m:=m.erase x) b.2 (fun y d=>(List.mem_erase_of_ne (fun e=>b.1 (by rw [←e];exact d))).2 (h y (aT _ d)))
  simp only [sizeS,bq,List.sum_cons] at this⊢
  omega
theorem FY (a b c:Nat) (h:a+(1+b+c)≤4611686018427387904):Value.int .i64 (wrap64 ((a:Int)+wrap64 (wrap64 (1+(b:Int))+(c:Int)))) = .int .i64 ((a+(1+b+c):Nat):Int):=by
 rw [IntWalk.wrap64_in (1+(b:Int)) (by omega),IntWalk.wrap64_in (1+(b:Int)+(c:Int)) (by omega),IntWalk.wrap64_in _ (by omega)]
 congr 1
theorem FX (q off r:Nat) (S:List E) (w:World) (he:EntAt w q off r S) (x:sizeS S≤4611686018427387904) :
  Calls Tryz.prog 105 #[.pointer (some ⟨q,off,none⟩)] w fun e w'=>e = .returned (.int .i64 (sizeS S:Nat))∧Below w.heap.size w w':=by
 have hc:=he.cell
 obtain ⟨B,L,G,Q⟩:=he.tab
 have I:=ae Q
 have HS:=ae x
 have HN:=ae B.nodup
 clear he B Q x
 go_enter Tryz.func105,Tryz.ntmps105
 go_wp2_with (first | (refine jY rfl _ rfl Tryz.underlying107 rfl G ?_;intro w0 J R aE) | fail)
 try go_frame
 go_loopw [3] (fun n wr=>∃ l:List E,gm wr r w.heap.size L (l.map zS)∧n = .int .i64 (sizeS l:Nat)∧Below w.heap.size w wr) (fun _ wr=>wr.rangeLeft r w.heap.size)
 case atStart=>exact ⟨[],J,rfl,R⟩
 case round =>
  obtain ⟨l,d,rfl,i⟩:=hrel
  go_wp2_with (first | (refine kD rfl _ rfl rfl d ?_ ?_) | fail)
  ·intro U
   have V:=ae (wy (qO (ky d.sub.2.2) HN.out (U.trans I.out)))
   go_wp2
   go_ret
   exact ⟨by rw [V.out];rfl,i⟩
  ·intro M N v w2 W X o Y a0 Z a1
   obtain ⟨⟨k',O⟩,aa,e⟩:=aB.1 (I.out.mem_iff.1 W)
   cases e
   have b:gm w2 r w.heap.size L ((l++[((M,N),O)]).map zS):=by rw [bC];exact o
   have hle:=Es (m:=S) (ky b.sub.2.2) (fun y hy=>sY (I.out.mem_iff.1 (b.sub.1 _ (aB.2 ⟨y,hy,rfl⟩))))
   have C:=ae (CR l ((M,N),O))
   rw [C.out] at hle
   have ab:=HS.out
   have s:=ae b
   have a2:=i.size
   have D:Below w.heap.size w w2:=i.grown Y i.size (fun j e=>by cases e;exact ah _)
   have ag:=ae d
   clear o b W X aa d
   unfold kP at Z
   unfold kP
   go_wp2
   have u:Below w2.heap.size w2 ((w2.alloc (.cells #[.int .i64 M,.string ⟨N.toArray⟩] 94)).alloc (.cells #[.string ⟨O.toArray⟩] 180)):=((Below.refl _ w2).alloc (ah _) _).alloc (by simp) _
   have F:=s.out.frame (u.block _ s.out.lt.1) (u.block _ s.out.lt.2)
   have ak:=F.left
   have al:=ag.out.left
   simp only [aH,ar,au,aJ] at ak al
   refine ⟨⟨_,F,?_,D.trans (u.mono D.size)⟩,by omega⟩
   rw [C.out]
   exact FY _ _ _ (aI hle ab)
end Go.Proofs.YtkkfmkhbdoeglaaGreatDoor
namespace Go.Proofs.YtkkfmkhbdoeglaaGreatDoor
open Go.RowKit Go.Shelf
theorem o8 (q off:Nat) (w:World):Calls Tryz.prog 49 #[.pointer (some ⟨q,off,none⟩)] w fun e w' =>
  e = .returned (.func (.func 90) #[] #[.pointer (some ⟨w.heap.size,0,none⟩)])∧w'=w.alloc (.cells #[.pointer (some ⟨q,off,none⟩)] 173):=by
 go_enter Tryz.func49,Tryz.ntmps49
 go_wp2
 go_ret
 exact ⟨rfl,rfl⟩
theorem nR (fb q r:Nat) (S:List E) (w:World) (he:jO w fb q r S) (m:S.length≤1000000000) :
  Calls Tryz.prog 24 #[.pointer (some ⟨fb,0,none⟩)] w fun e w'=>∃ v,e = .returned (.tuple #[v,.bool true])∧ic w' v S∧(∀ k,v.ownBlock=some k→w.heap.size≤k)∧Below w.heap.size w w':=by
 have hc:=he.cell
 have d:=he.ent.cell
 have b:Below w.heap.size w (w.alloc (.cells #[.pointer (some ⟨q,0,none⟩)] 173)):=(Below.refl _ w).alloc (ah _) _
 have i:=ae (vP w.heap.size q 0 r S (w.alloc (.cells #[.pointer (some ⟨q,0,none⟩)] 173)) (by simp) (af _ _ 0 _ _ _ (fL w _)) (he.below b).ent m)
 clear he
 go_enter Tryz.func24,Tryz.ntmps24
 go_wp2_with fail
 refine (o8 q 0 w).mono ?_
 rintro e w1 ⟨rfl,rfl⟩
 go_wp2_with fail
 refine i.out.mono ?_
 rintro e w2 ⟨v,rfl,o,j,l⟩
 clear hc d i
 go_wp2
 go_ret2
 exact ⟨v,rfl,o,fun k e=>aI b.size (j k e),b.trans (l.mono b.size)⟩
end Go.Proofs.YtkkfmkhbdoeglaaGreatDoor
namespace Go.Proofs.YtkkfmkhbdoeglaaGreatDoor
open Go.RowKit
theorem pd {o:OpB} {b:List K} (h:ij o b=0):(gN o).length≤12∧o.key.length≤6∧o.val.length≤4:=by
 obtain ⟨h1,h2,h3,h4,h5,h6⟩:=nd h
 have hk:=jg h4
 have d:fN o.table≤6:=by unfold fN;split <;> (try split) <;> omega
 have i:o.val.length≤4:=by
  unfold od at h6
  split at h6
  ·have:o.val=[]:=by simpa using h6
   rw [this];simp
  ·rw [iO h2 h3 h6]
   unfold fZ;split <;> (try split) <;> omega
 rw [nA]
 omega
theorem ja:∀ (os:List OpB) (i:Nat) (b:List K) (_:fV i b os=none) (k:Nat) (hk:k<os.length),∃ d,ij os[k] d=0
 | o::os,i,b,h,0,hk=>by
  unfold fV at h
  split at h
  ·rename_i j;exact ⟨b,j⟩
  ·cases h
 | o::os,i,b,h,k+1,hk=>by
  unfold fV at h
  split at h
  ·exact ja os _ _ h k (by simpa using hk)
  ·cases h
theorem xF (os:List OpB) (k:Nat) (h:k<os.length):(os.take (k+1)).flatMap gN=(os.take k).flatMap gN++gN os[k]:=by
 rw [aO h,eA]
 simp
theorem GI (os:List OpB) (k:Nat) (h:∀ o∈os,(gN o).length≤12):((os.take k).flatMap gN).length≤12*k:=by
 induction k with
 | zero=>simp
 | succ k ih =>
  by_cases hk:k<os.length
  ·rw [xF os k hk,ar]
   have:=h os[k] (cF hk)
   omega
  ·rw [aS (by omega)] at ih⊢
   omega
def oD (v:Nat) (os:List OpB) (k:Nat):List UInt8:=j4 v++[UInt8.ofNat os.length]++(os.take k).flatMap gN
theorem BL (v:Nat) (os:List OpB):oD v os 0=j4 v++[UInt8.ofNat os.length]:=by simp [oD]
theorem xB (v:Nat) (os:List OpB):oD v os os.length=jo v os:=by simp [oD,jo]
theorem BK (v:Nat) (os:List OpB) (k:Nat) (h:k<os.length):oD v os (k+1)=oD v os k++gN os[k]:=by
 unfold oD
 rw [xF os k h,←bg]
theorem zX (v:Nat) (os:List OpB) (k:Nat) (h:∀ o∈os,(gN o).length≤12):(oD v os k).length≤9+12*k:=by
 unfold oD
 have:=GI os k h
 rw [ar,ar,fY,dt]
 omega
theorem uP (v:Nat) (b:Value) (os:List OpB) (w:World) (hs:iu w b os) (s:ShapesVar w) (i:jP os) (f:Nat×Nat) (hw:gB v os=some f) :
  Calls Tryz.prog 78 #[.agg #[.int .u64 v,b]] w fun e w'=>∃ ev,e = .returned (.tuple #[.slice none 0 0,ev])∧iT w' w.heap.size ev f.1 f.2∧Below w.heap.size w w':=by
 have j:iu (w.alloc (.cells #[.int .u64 (v:Int),b] 34)) b os:=hs.below ((Below.refl _ w).alloc (ah _) _)
 have u:=ae hw
 clear hw
 go_enter Tryz.func78,Tryz.ntmps78
 go_wp2_with fail
 refine (nM v b os _ j (s.alloc _) i).mono ?_
 rintro e w1 ⟨⟨r,rfl,fp,rfl,l⟩,m⟩
 rw [u.out] at l
 obtain ⟨g,rfl,o,d⟩:=l
 have q:=ae d
 clear d
 go_wp2
 go_ret2
 exact ⟨_,rfl,⟨g,rfl,by simp at o;omega,q.out⟩,((Below.refl _ w).alloc (ah _) _).trans (m.mono (by simp))⟩
theorem zr (v:Nat) (M:Value) (os:List OpB) (w:World) (hs:iu w M os) (hg:ShapesVar w) (a6:jP os) (hw:gB v os=none) :
  Calls Tryz.prog 78 #[.agg #[.int .u64 v,M]] w fun e w'=>∃ bv,e = .returned (.tuple #[bv,.nilIface])∧OwnS w' w.heap.size 1 bv (jo v os).length (u8s (jo v os))∧Below w.heap.size w w':=by
 have N:iu (w.alloc (.cells #[.int .u64 (v:Int),M] 34)) M os:=hs.below ((Below.refl _ w).alloc (ah _) _)
 have HW:=ae hw
 have Y:isVersionB v=true∧1≤os.length∧os.length≤8∧fV 0 [] os=none:=by
  unfold gB at hw
  split at hw
  ·cases hw
  ·split at hw
   ·cases hw
   ·rename_i h1 h2
    exact ⟨by simpa using h1,by omega,by omega,hw⟩
 clear hw
 obtain ⟨Y,h1,h8,ak⟩:=Y
 have a7:=j6 Y
 have al:=ae ak
 clear ak Y
 go_enter Tryz.func78,Tryz.ntmps78
 go_wp2_with fail
 refine (nM v M os _ N (hg.alloc _) a6).mono ?_
 rintro e w1 ⟨⟨r,rfl,fp,rfl,hf⟩,O⟩
 rw [HW.out] at hf
 obtain rfl:fp=none:=hf
 have Q:=ae (N.below O)
 obtain ⟨a,cap,rfl,bP,-⟩:=Q.out.opened
 have B1:=ae (fK O (by simp) (fL w (.cells #[.int .u64 (v:Int),.slice a os.length cap] 34)))
 have c0:w1.cell? ⟨w.heap.size,0,none⟩=some (.int .u64 v):=af _ _ 0 _ _ _ B1.out
 have c1:w1.cell? ⟨w.heap.size,1,none⟩=some (.slice a os.length cap):=af _ _ 1 _ _ _ B1.out
 have bS:=fI B1.out
 clear hs N
 have hX:((UInt8.ofNat os.length).toNat:Int)=IntKind.u8.wrap (os.length:Int):=by
  rw [IntWalk.u8_in _ (by omega)]
  simp;omega
 have x:=fun w=>pc w (UInt8.ofNat os.length)
 rw [hX] at x
 have ci:(os.length:Int)≤8:=by omega
 go_wp2
 go_region_held3 (fun w'=>w'.cell? ⟨w.heap.size,0,none⟩=some (.int .u64 v)∧w'.cell? ⟨w.heap.size,1,none⟩=some (.slice a os.length cap))
  (first | go_keep | exact ⟨d0,d1⟩ | exact ⟨e0,e1⟩)
  ((first
    | (go_at_call 113;refine (rK _ (.slice none 0 0) [] v _ (OwnS.nil _ _ _) (ah _) (by simp [gx]) a7).mono ?_;rintro e w2 ⟨bv,rfl,u,m⟩;simp only [aJ,bF,aQ] at u;
       have d0:w2.cell? ⟨w.heap.size,0,none⟩=some (.int .u64 v):=(m.cell (p:=⟨w.heap.size,0,none⟩) (by simp;omega)).trans (by first | exact c0 | go_keep);
       have d1:w2.cell? ⟨w.heap.size,1,none⟩=some (.slice a os.length cap):=(m.cell (p:=⟨w.heap.size,1,none⟩) (by simp;omega)).trans (by first | exact c1 | go_keep))
    | (refine qq rfl (.tmp 16) (.tmp 21) rfl _ bv 8 (j4 v) rfl (by first | exact u | exact u.below ((Below.refl _ w2).alloc (ah _) _)) [UInt8.ofNat os.length] (by first | exact x _ | exact BytesAt.below (w:=(w1.alloc _).drew) (x w1) m) (by simp) (by have h9:=m.size;simp at h9⊢;omega) ?_;intro v3 w3 F _ y;
       have e0:w3.cell? ⟨w.heap.size,0,none⟩=some (.int .u64 v):=(y.cell (p:=⟨w.heap.size,0,none⟩) (by simp;omega)).trans (by first | exact d0 | go_keep);
       have e1:w3.cell? ⟨w.heap.size,1,none⟩=some (.slice a os.length cap):=(y.cell (p:=⟨w.heap.size,1,none⟩) (by simp;omega)).trans (by first | exact d1 | go_keep))))
 all_goals
  have G:OwnS w3 w1.heap.size 1 v3 (j4 v++[UInt8.ofNat os.length]).length (u8s (j4 v++[UInt8.ofNat os.length])):=by
   rw [ar,fY]
   exact F.mono (by simp)
  have R:Below w1.heap.size w1 w3:=by
   first
    | exact ((((Below.refl w1.heap.size w1).drew).trans m).alloc m.size _).trans y
    | exact ((((Below.refl w1.heap.size w1).alloc (ah _) _).drew).trans (m.mono (by simp))).trans (y.mono (by simp))
  clear F y u m d0 d1 x hX c0 c1
  have bo:=ae (Q.out.below R)
  have bX:w1.heap.size≤w3.heap.size:=R.size
 all_goals go_wp2
 all_goals
  go_loopw [5,26] (fun c4 i wr=>∃ k:Nat,k≤os.length∧i = .int .i64 k∧OwnS wr w1.heap.size 1 c4 (oD v os k).length (u8s (oD v os k))∧Below w1.heap.size w1 wr) (fun _ i _=>os.length-(intOf i).toNat)
  case atStart=>exact ⟨0,by omega,rfl,by rw [BL];exact G,R⟩
  case round =>
   obtain ⟨k,hk,rfl,l,I⟩:=hrel
   clear bo G e0 e1
   have br:=I.size
   by_cases S:k<os.length
   ·obtain ⟨a',cap',he,bs,hx⟩:=(Q.out.below I).opened
    cases he
    obtain ⟨b,off,rfl,c0,c1,c2,c3⟩:=hx k S
    clear hx bs
    obtain ⟨ks,B⟩:=ja os 0 [] al.out k S
    obtain ⟨U,am,ap,-⟩:=nd B
    obtain ⟨bw,av,aE⟩:=pd B
    have bx:=ae (BK v os k S)
    have bz:=zX v os k (fun o V=>by
     obtain ⟨j,hj,rfl⟩:=List.mem_iff_getElem.1 V
     obtain ⟨ks,B⟩:=ja os 0 [] al.out j hj
     exact (pd B).1)
    obtain ⟨P,Z⟩:∃ P,P=oD v os k:=⟨_,rfl⟩
    have cl:P.length≤200:=by rw [Z];omega
    rw [←Z] at l
    have HP:=ae Z
    clear Z bz
    obtain ⟨d,T,q,s,V⟩:∃ d T q s,os[k]=⟨d,T,q,s⟩:=⟨_,_,_,_,rfl⟩
    rw [V] at c0 c1 c2 c3 U am ap av aE
    have HO:=ae V
    clear V B bw
    simp only at U am ap av aE
    have co:=fP c0
    have b5:(k:Int)<os.length:=by omega
    have b6:1≤d:=by omega
    have b7:d≤2:=by omega
    clear U
    obtain ⟨C,a0⟩:∃ C:UInt8,(C.toNat:Int)=d∧C=UInt8.ofNat d.toNat:=⟨UInt8.ofNat d.toNat,by simp;omega,rfl⟩
    obtain ⟨D,a1⟩:∃ D:UInt8,(D.toNat:Int)=T∧D=UInt8.ofNat T.toNat:=⟨UInt8.ofNat T.toNat,by simp;omega,rfl⟩
    have a2:=ae a0
    have a3:=ae a1
    clear a0 a1
    have a4:=fL wr (.cells #[.int .i64 d,.int .i64 T,.string ⟨q.toArray⟩,.string ⟨s.toArray⟩] 96)
    have bD:=ae (fQ (wr.alloc (.cells #[.int .i64 d,.int .i64 T,.string ⟨q.toArray⟩,.string ⟨s.toArray⟩] 96)) (.cells #[.int .u8 d,.int .u8 T] 5) a4)
    clear a4
    have W:u5.ownBlock≠some wr.heap.size:=fun e=>by have:=l.gZ _ e;omega
    have J:OwnS ((wr.alloc (.cells #[.int .i64 d,.int .i64 T,.string ⟨q.toArray⟩,.string ⟨s.toArray⟩] 96)).alloc (.cells #[.int .u8 d,.int .u8 T] 5)) w1.heap.size 1 u5 P.length (u8s P):=l.below (((Below.refl _ wr).alloc (ah _) _).alloc (by simp) _)
    have E:=Iy (wr.alloc (.cells #[.int .i64 d,.int .i64 T,.string ⟨q.toArray⟩,.string ⟨s.toArray⟩] 96)) C D d T a2.out.1 a3.out.1
    simp only [ax] at E
    have ba:=ae E
    have bb:=ae J
    clear E J l
    go_wp2_with (first
     | (at_builtin;refine kT rfl (.tmp 30) (.tmp 38) 59 rfl w1.heap.size u5 P.length P rfl bb.out [C,D] (by exact (BytesAt.src ba.out)) (by simp;omega) (by simp;omega) ?_;intro v5 w5 aa bH X bc;
        have B5:=ae (iJ bH W bD.out);
        have k5:=bc wr.heap.size (by simp;omega) W;
        have q1:w5.cell? ⟨wr.heap.size,2,none⟩=some (.string ⟨q.toArray⟩):=af _ _ 2 _ _ _ B5.out;have cp:=fI B5.out)
     | (at_builtin;refine kT rfl (.tmp 40) (.tmp 43) 9 rfl w1.heap.size v5 _ _ rfl aa q (by exact y9 q) (by simp;omega) (by have:=X.size;simp at this⊢;omega) ?_;intro v6 w6 ab bI a5 cb;
        have B6:=ae (iJ bI k5 B5.out);
        have q2:w6.cell? ⟨wr.heap.size,3,none⟩=some (.string ⟨s.toArray⟩):=af _ _ 3 _ _ _ B6.out;have cq:=fI B6.out)
     | (at_builtin;refine kT rfl (.tmp 45) (.tmp 47) 9 rfl w1.heap.size v6 _ _ rfl ab s (by exact y9 s) (by simp;omega) (by have:=X.size;have:=a5.size;simp at *;omega) ?_;intro v7 w7 ag cr bM ce))
    go_roundw
    case rel =>
     refine ⟨v7,_,.int .i64 ((k:Int)+1),⟨k+1,by omega,by go_num,?_,?_⟩,rfl,rfl,(IntWalk.u8_in _ (by omega)).symm,rfl⟩
     ·have e:P++[C,D]++q++s=oD v os (k+1):=by
       rw [bx.out,HO.out,HP.out,a2.out.2,a3.out.2]
       simp [gN]
      have e2:P.length+[C,D].length+q.length+s.length=(P++[C,D]++q++s).length:=by simp only [ar]
      rw [←e,←e2]
      exact ag
     ·exact ((((I.alloc br _).alloc (by simp;omega) _).trans X).trans a5).trans bM
    case measure=>simp [intOf];omega
   ·obtain rfl:k=os.length:=by omega
    rw [xB] at l
    have cs:¬(os.length:Int)<os.length:=by omega
    go_wp2
    go_ret2
    exact ⟨_,rfl,l.mono (by omega),(((Below.refl _ w).alloc (ah _) _).trans (O.mono (by simp))).trans (I.mono (by omega))⟩
end Go.Proofs.YtkkfmkhbdoeglaaGreatDoor
namespace Go.Proofs.YtkkfmkhbdoeglaaGreatDoor
open Go.RowKit
theorem qV {F:Fence} (hF:∀ f,F.fn f) {nF:Nat} {ops:Array Oper} {rest:List Oper} {o:Oper} {a:Act} {Q:Exit→Act→World→Prop} {w:World} (j:o.guard=none) (s x:Operand)
  (u:o.op = .call {callee := .builtin .append,args:=#[s,x],argTypes:=#[59,59]})
  (base:Nat) (v:Value) (n:Nat) (l:List UInt8) (y:a.eval s=v) (d:OwnS w base 1 v n (u8s l)) (B:CellsOf w v 5) (m:List UInt8) (hs:BytesAt w (a.eval x) m)
  (hlen:n+m.length≤140737488355328) (b:base≤w.heap.size)
  (h:∀ v' w',OwnS w' base 1 v' (n+m.length) (u8s (l++m))→w.grownBy w' v.ownBlock→CellsOf w' v' 5→Below base w w'→
   wpListIn F nF Tryz.prog ops Q rest (a.put o.dst v') w'):wpListIn F nF Tryz.prog ops Q (o::rest) a w:=by
 obtain ⟨i0,C,q,i,r⟩:=dP p7
 have hmx:maxLen=9223372036854775807:=rfl
 refine kY hF j s x _ _ u base 1 5 i0 (.int .u8 0) Tryz.underlying59 C q i (by rw [i];rfl) (by omega) v n (u8s l) y d B m.length (u8s m) (fR.src Tryz.underlying59 hs (oc m)) (by omega) (by rw [r];omega) b (fun v' w' h1 h2 h3 => ?_)
 rw [←jV] at h1
 exact h v' w' h1 h2 h3 (iv d h2 b)
theorem mH {F:Fence} (hF:∀ f,F.fn f) {nF:Nat} {ops:Array Oper} {rest:List Oper} {o:Oper} {a:Act} {Q:Exit→Act→World→Prop} {w:World} (j:o.guard=none) (s x:Operand)
  (u:o.op = .call {callee := .builtin .append,args:=#[s,x],argTypes:=#[59,9]})
  (base:Nat) (v:Value) (n:Nat) (l:List UInt8) (y:a.eval s=v) (d:OwnS w base 1 v n (u8s l)) (B:CellsOf w v 5) (m:List UInt8) (hs:a.eval x = .string ⟨m.toArray⟩)
  (hlen:n+m.length≤140737488355328) (b:base≤w.heap.size)
  (h:∀ v' w',OwnS w' base 1 v' (n+m.length) (u8s (l++m))→w.grownBy w' v.ownBlock→CellsOf w' v' 5→Below base w w'→
   wpListIn F nF Tryz.prog ops Q rest (a.put o.dst v') w'):wpListIn F nF Tryz.prog ops Q (o::rest) a w:=by
 obtain ⟨i0,C,q,i,r⟩:=dP p7
 have hmx:maxLen=9223372036854775807:=rfl
 refine kY hF j s x _ _ u base 1 5 i0 (.int .u8 0) Tryz.underlying59 C q i (by rw [i];rfl) (by omega) v n (u8s l) y d B m.length (u8s m) (by rw [hs];exact y9 m) (by omega) (by rw [r];omega) b (fun v' w' h1 h2 h3 => ?_)
 rw [←jV] at h1
 exact h v' w' h1 h2 h3 (iv d h2 b)
theorem CellsOf.kept {w w':World} {v:Value} {e:TypeId} {row:Option Nat} (h:CellsOf w v e) (j:w.grownBy w' row) (l:∀ b,v.ownBlock=some b→row≠some b):CellsOf w' v e:=fun b d=>by
 obtain ⟨C,fz,i⟩:=h b d
 exact ⟨C,fz,(j.block b (fI i) (fun e=>l b d e.symm)).trans i⟩
structure jc (base B:Nat) (l:List UInt8) (v:Value) (W:World):Prop where
 box:Boxed W B 59 v
 own:OwnS W base 1 v l.length (u8s l)
 typ:CellsOf W v 5
 lo:base≤B
section
variable {base B:Nat} {l m:List UInt8} {v v':Value} {W w1:World}
theorem jc.apart (h:jc base B l v W) {j:Nat} {cs:Array Value} {t':TypeId} {fz:Nat×Nat} (d:W.heap[j]?=some (.cells cs t' fz)) (i:t'≠5):v.ownBlock≠some j:=fun e=>by
 obtain ⟨C,m,b⟩:=h.typ j e
 rw [d] at b
 cases b
 exact i rfl
theorem jc.Il (h:jc base B l v W):v.ownBlock≠some B:=h.apart h.box (by decide)
theorem jc.kept {row:Option Nat} (h:jc base B l v W) (i:W.grownBy w1 row) (j:∀ r,row=some r→∃ o:Obj,W.heap[r]?=some o∧o.isCells=false):jc base B l v w1 :=
 have h1:∀ b,v.ownBlock=some b→row≠some b:=fun b m e=>by
  obtain ⟨C,fz,q⟩:=h.typ b m
  obtain ⟨o,d,hc⟩:=j b e
  rw [q] at d
  cases d
  cases hc
 ⟨h.box.kept i (fun e=>by obtain ⟨o,d,hc⟩:=j B e.symm;rw [show W.heap[B]?=_ from h.box] at d;cases d;cases hc),h.own.grown i h1,h.typ.kept i h1,h.lo⟩
theorem jc.alloc (h:jc base B l v W) (o:Obj):jc base B l v (W.alloc o):=h.kept (dH W o none) (fun r e=>by cases e)
theorem jc.still (h:jc base B l v W) (b:W.grownBy w1 v.ownBlock):Boxed w1 B 59 v:=h.box.kept b (fun e=>h.Il e.symm)
theorem jc.stored (h:jc base B l v W) (q:W.grownBy w1 v.ownBlock) {n:Nat} (i:OwnS w1 base 1 v' n (u8s m)) (r:n=m.length) (j:CellsOf w1 v' 5):jc base B m v' (w1.setCell ⟨B,0,none⟩ v'):=by
 subst r
 have h1:=h.still q
 have d:∀ b,v'.ownBlock=some b→(some B:Option Nat)≠some b:=fun b s e=>by
  cases e
  obtain ⟨C,u,o⟩:=j B s
  rw [show w1.heap[B]?=_ from h1] at o
  cases o
 exact ⟨h1.set v',i.grown (grownBy_setCell' w1 B v') d,j.kept (grownBy_setCell' w1 B v') d,h.lo⟩
theorem jc.others (h:jc base B l v W) (d:W.grownBy w1 v.ownBlock):KeepsOthers W (w1.setCell ⟨B,0,none⟩ v') :=
 (KeepsOthers.of_grownBy d (fun j o i m=>by
  obtain ⟨C,fz,b⟩:=h.typ j i
  rw [m] at b
  cases b
  rfl)).trans (KeepsOthers.setCell _ _ _)
theorem jc.np (h:jc base B l v W) (i:W.grownBy w1 v.ownBlock) {j:Nat} {cs:Array Value} {t':TypeId} {fz:Nat×Nat} (b:W.heap[j]?=some (.cells cs t' fz)) (m:t'≠5) (d:t'≠59):(w1.setCell ⟨B,0,none⟩ v').heap[j]?=some (.cells cs t' fz):=by
 have o:j≠B:=by
  rintro rfl
  have:=(show W.heap[j]?=_ from h.box).symm.trans b
  cases this
  exact d rfl
 rw [Below.heap_setCell _ ⟨B,0,none⟩ _ j o]
 exact (i.block j (fI b) (fun e=>h.apart b m e.symm)).trans b
theorem jc.lower (h:jc base B l v W) (b:W.grownBy w1 v.ownBlock) (d:base≤W.heap.size):Below base W (w1.setCell ⟨B,0,none⟩ v') :=
 (iv h.own b d).setCell (p:=⟨B,0,none⟩) h.lo v'
theorem jc.late {n:Nat} (b:OwnS W base 1 v n (u8s l)) (d:n=l.length) (i:CellsOf W v 5) (j:base≤W.heap.size):jc base W.heap.size l v (W.alloc (.cells #[v] 59)):=by
 subst d
 exact ⟨Boxed.new W _ _,b.below ((Below.refl _ W).alloc (ah _) _),i.alloc _,j⟩
theorem jc.put {n:Nat} {u:Value} (i:Boxed W B 59 u) (o:OwnS W base 1 v n (u8s l)) (q:n=l.length) (j:CellsOf W v 5) (r:base≤B):jc base B l v (W.setCell ⟨B,0,none⟩ v):=by
 subst q
 have d:∀ b,v.ownBlock=some b→(some B:Option Nat)≠some b:=fun b h e=>by
  cases e
  obtain ⟨C,s,m⟩:=j B h
  rw [show W.heap[B]?=_ from i] at m
  cases m
 exact ⟨i.set v,o.grown (grownBy_setCell' W B v) d,j.kept (grownBy_setCell' W B v) d,r⟩
theorem jc.Ck (h:jc base B l v W) (b:W.grownBy w1 v.ownBlock) (j:base≤W.heap.size) {x y z:Nat} {d:TypeId} {u:Value} (m:Boxed W x d u) (o:d≠5) (i:d≠59) (q:y<base) (r:z<base):gP x y z W (w1.setCell ⟨B,0,none⟩ v'):=by
 refine ⟨by rw [size_setCell];exact b.size,fun k hk => ?_,fun k cs fz hk=>h.np b hk (by decide) (by decide)⟩
 rcases hk with rfl | rfl | rfl
 ·exact (h.np b m o i).trans (show W.heap[k]?=_ from m).symm
 ·exact (h.lower b j).block k q
 ·exact (h.lower b j).block k r
end
end Go.Proofs.YtkkfmkhbdoeglaaGreatDoor
