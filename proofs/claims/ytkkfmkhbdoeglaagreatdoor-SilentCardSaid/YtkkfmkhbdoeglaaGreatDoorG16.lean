/- A part of what is proved here: lemmas and contracts of single functions. No condition but those that each names. -/
import Derived.Test.YtkkfmkhbdoeglaaGreatDoorG00
import Derived.Deep.DeepCutAuto
import Derived.Test.YtkkfmkhbdoeglaaGreatDoorG02
import Derived.Test.YtkkfmkhbdoeglaaGreatDoorG04
import Derived.Test.YtkkfmkhbdoeglaaGreatDoorG11
import Derived.Test.YtkkfmkhbdoeglaaGreatDoorG15
set_option maxHeartbeats 1000000
set_option maxRecDepth 100000
namespace Go.Proofs.YtkkfmkhbdoeglaaGreatDoor
open Go.RowKit Go.Extern.Stop Go.Stop Go.Extern
theorem tI {P:Program} (w:World) (d:Nat) {m tn:TypeId} {ms:Array (String×TypeId)} {i:TypeInfo} {k:IntKind} (a b:Int)
  (o:P.underlying m=some (.interface ms)) (q:P.underlying tn=some (.int k)) (j:P.info? tn=some i) (l:i.comparable=true) :
  (Op.equalIn (d+2) m (.iface tn (.int k a)) (.iface tn (.int k b))).run P w = .ok (a==b) w:=by
 simp [Op.equalIn,aL o,aL q,typeInfo,j,l]
theorem DW (a b:Int) (w:World):(binOp .eql 101 (.iface 160 (.int .i64 a)) (.iface 160 (.int .i64 b))).run Tryz.prog w = .ok (.bool (a==b)) w:=by
 have hc:(Tryz.prog.info? 160).map (·.comparable)=some true:=by kernel_rfl
 obtain ⟨i,j,d⟩:=ch.1 hc
 have h:=tI (P:=Tryz.prog) w 9998 a b Tryz.underlying101 Tryz.underlying160 j d
 simp only [binOp]
 simp [Op.equal,Op.maxDepth,h]
theorem qm (x y:Value) (w:World):(binOp .eql 101 (.iface 114 x) (.iface 160 y)).run Tryz.prog w = .ok (.bool false) w :=
 run_eql_iface_types _ _ _ _ Tryz.underlying101 (by decide) w
theorem sy (w : World) : (Go.method 433 257 (.agg #[.pointer (some ⟨2, 160, none⟩)]) "Comparable").run Tryz.prog w = .ok (215, .agg #[.pointer (some ⟨2, 160, none⟩)]) w := by kernel_rfl
theorem zj (k m:Int) (w:World) :
  Calls Tryz.prog 128 #[.iface 160 (.int .i64 k),.iface 160 (.int .i64 m),.bool true] w fun e w'=>e = .returned (.bool (k==m))∧w=w':=by
 have a1:=GM
 have a2:=FW
 have a3:=FZ
 have he:=DW
 cases b:(k==m)
 ·go_enter Tryz.func128,Tryz.ntmps128
  go_wp2
  refine wp_loop_rounds 1 ?_
  rw [rounds_succ]
  go_wp2
  go_ret
  exact ⟨rfl,rfl⟩
 ·go_enter Tryz.func128,Tryz.ntmps128
  go_wp2
  refine wp_loop_rounds 1 ?_
  rw [rounds_succ]
  go_wp2
  go_ret
  exact ⟨rfl,rfl⟩
theorem E4 (b:Nat) (k n m:Int) (w:World) (i:w.heap[b]?=some (.cells #[.int .i64 k,.int .i64 n,.nilIface] 166 (0,0))) :
  Calls Tryz.prog 128 #[.iface 114 (.pointer (some ⟨b,0,none⟩)),.iface 160 (.int .i64 m),.bool true] w fun e w'=>e = .returned (.bool (k==m))∧Below w.heap.size w w':=by
 have a1:=FP
 have a2:=Cc
 have a3:=xl
 have l:=lJ
 have he:=qm
 cases d:(k==m)
 all_goals
  have j:=ab d
  clear d
  go_enter Tryz.func128,Tryz.ntmps128
  go_wp2
  refine wp_loop_rounds 1 ?_
  rw [rounds_succ]
  go_wp2_with (go_at_call 196;refine (tV ⟨b,0,none⟩ k _ (ae _ b 0 _ _ _ i) (ae _ b 2 _ _ _ i) rfl).mono ?_;rintro e w' ⟨rfl,rfl⟩)
  refine wp_loop_rounds 2 ?_
  rw [rounds_succ]
  go_wp2_with (go_at_call 128;refine (zj k m _).mono ?_;rintro e w1 ⟨rfl,rfl⟩;rw [j.out])
 ·rw [rounds_succ]
  go_wp2
  go_ret
  exact ⟨rfl,(Below.refl _ w).alloc (af _) _⟩
 ·go_ret
  exact ⟨rfl,(Below.refl _ w).alloc (af _) _⟩
theorem zq (b:Nat) (k n m:Int) (w:World) (i:w.heap[b]?=some (.cells #[.int .i64 k,.int .i64 n,.nilIface] 166 (0,0))) :
  Calls Tryz.prog 88 #[.iface 114 (.pointer (some ⟨b,0,none⟩)),.iface 160 (.int .i64 m)] w fun e w'=>e = .returned (.bool (k==m))∧Below w.heap.size w w':=by
 have j := @run_callFunc_extern Tryz.prog 127 _ ReflectliteType.typeOf Tryz.func127 (by kernel_rfl) (by kernel_rfl) (by kernel_rfl) (by kernel_rfl)
 have l := @run_callFunc_extern Tryz.prog 215 _ (ReflectliteType.method fun t => do Rtype.noPackHeld "Comparable" t; pure (.bool (← typeInfo t).comparable)) Tryz.func215 (by kernel_rfl) (by kernel_rfl) (by kernel_rfl) (by kernel_rfl)
 have o : ∀ w, (ReflectliteType.method (fun t => do Rtype.noPackHeld "Comparable" t; (fun a : TypeInfo => Value.bool a.comparable) <$> typeInfo t) #[.agg #[.pointer (some ⟨2, 160, none⟩)]]).run Tryz.prog w = .ok (.bool true) w := fun w => by kernel_rfl
 have q:=xP
 have r:=sy
 go_enter Tryz.func88,Tryz.ntmps88
 go_wp2_with (go_at_call 128;refine (E4 b k n m _ i).mono ?_;rintro e w1 ⟨rfl,d⟩)
 go_ret
 exact ⟨rfl,d⟩
end Go.Proofs.YtkkfmkhbdoeglaaGreatDoor
namespace Go.Proofs.YtkkfmkhbdoeglaaGreatDoor
open Go.RowKit Go.Extern.Stop Go.Stop Go.Extern
theorem pU (w:World):Calls Tryz.prog 45 #[.nilIface] w fun e w'=>e = .returned (.agg #[.int .i64 0,.int .i64 0,.int .i64 0])∧Below w.heap.size w w':=by
 go_enter Tryz.func45,Tryz.ntmps45
 go_wp2
 exact aI (v := .agg #[.int .i64 0,.int .i64 0,.int .i64 0]) (by simp [results,Tryz.results45,go_sem]) rfl ⟨rfl,(Below.refl _ w).alloc (af _) _⟩
theorem qY (e t:Addr) (w:World):Ext (fun k=>k=t.block) w (rP e t w) :=
 Ext.setCell (((((Ext.refl _ w).alloc _).alloc _).alloc _).alloc _) t _ (.inl rfl)
theorem s7 (e:Addr) (t:Nat) (w:World) {T:TypeId} {fP:Value} (h:w.heap[t]?=some (.cells #[fP] T (0,0))):(rP e ⟨t,0,none⟩ w).heap[t]?=some (.cells #[.pointer (some e)] T (0,0)) :=
 heap_setCell _ t 0 _ (fG _ _ (fG _ _ (fG _ _ (fG _ _ h))))
theorem nh (b:Nat) (k n:Int) (w:World) (S:ErrVar w) (D:w.heap[b]?=some (.cells #[.int .i64 k,.int .i64 n,.nilIface] 166 (0,0))) (h1:1≤k) (h2:k≤14) :
  Calls Tryz.prog 45 #[.iface 114 (.pointer (some ⟨b,0,none⟩))] w fun e w'=>e = .returned (.agg #[.int .i64 k,.int .i64 n,.int .i64 0])∧Below w.heap.size w w':=by
 have I:=fw D
 have U:∀ o,(w.alloc (.cells #[.int .i64 0,.int .i64 0,.int .i64 0] 38)).heap[w.heap.size+1]?=o→True:=fun _ _=>cI
 clear U
 go_enter Tryz.func45,Tryz.ntmps45
 go_wp2_with fail
 generalize q:(w.alloc (.cells #[.int .i64 0,.int .i64 0,.int .i64 0] 38)).alloc (.cells #[.pointer none] 114)=s
 have V:s.heap.size=w.heap.size+1+1:=by rw [←q];simp
 have e0:Below w.heap.size w s:=by rw [←q];exact ((Below.refl _ w).alloc (af _) _).alloc (by simp) _
 have r0:s.heap[w.heap.size]?=some (.cells #[.int .i64 0,.int .i64 0,.int .i64 0] 38 (0,0)):=by rw [←q];exact fG _ _ (fA w _)
 have t0:s.heap[w.heap.size+1]?=some (.cells #[.pointer none] 114 (0,0)):=by rw [←q];have:=fA (w.alloc (.cells #[.int .i64 0,.int .i64 0,.int .i64 0] 38)) (.cells #[.pointer none] 114);simpa using this
 clear q
 refine (sV ⟨b,0,none⟩ ⟨w.heap.size+1,0,none⟩ (.pointer none) s (S.new e0).2 (ae _ _ 0 _ _ _ t0) (by rw [aj _ _ 0 _ _ t0]) ).mono ?_
 rintro e w1 ⟨rfl,J⟩
 have E:=qY ⟨b,0,none⟩ ⟨w.heap.size+1,0,none⟩ s
 have t1:=s7 ⟨b,0,none⟩ (w.heap.size+1) s t0
 rw [←J] at E t1
 clear J
 have M:Below w.heap.size w w1:=e0.trans (E.below (by omega) (fun k hk e=>by simp only at e;omega))
 have F:=fy M I D
 have c1:w1.cell? ⟨w.heap.size+1,0,none⟩=some (.pointer (some ⟨b,0,none⟩)):=ae _ _ 0 _ _ _ t1
 have k1:w1.cell? ⟨b,0,none⟩=some (.int .i64 k):=ae _ _ 0 _ _ _ F
 have n1:w1.cell? ⟨b,1,none⟩=some (.int .i64 n):=ae _ _ 1 _ _ _ F
 have a2:(k==0)=false:=by rw [aC];omega
 have S1:=ab V
 have a3:w.heap.size+2≤w1.heap.size:=by have:=E.size;omega
 have HB:=ab D
 have N:=ab F
 have O:=ab t1
 have R1:=ab (E.at (fun e=>by simp only at e;omega) r0)
 clear V D F t1 r0 t0
 go_wp2
 go_loopw [4] (fun c wr=>∃ m:Nat,m≤15∧c = .int .i64 m∧Below w1.heap.size w1 wr) (fun c _=>15-(intOf c).toNat)
 case atStart=>exact ⟨0,by omega,rfl,Below.refl _ _⟩
 case round =>
  obtain ⟨m,hm,rfl,i⟩:=hrel
  have Q:=i.size
  have B:=ab (fy i (fw N.out) N.out)
  have R:=ab (fy i (fw O.out) O.out)
  have W:wr.cell? ⟨w.heap.size+1,0,none⟩=some (.pointer (some ⟨b,0,none⟩)):=ae _ _ 0 _ _ _ R.out
  have X:wr.cell? ⟨b,0,none⟩=some (.int .i64 k):=ae _ _ 0 _ _ _ B.out
  have nr:wr.cell? ⟨b,1,none⟩=some (.int .i64 n):=ae _ _ 1 _ _ _ B.out
  clear c1 k1 n1
  by_cases am:m<15
  ·by_cases j:k=(m:Int)
   ·have Y:(k==(m:Int))=true:=bf.2 j
    have Z:((m:Int)==k)=true:=bf.2 j.symm
    clear j
    go_wp2
    go_region_held3 (fun w'=>w'.cell? ⟨w.heap.size+1,0,none⟩=some (.pointer (some ⟨b,0,none⟩))∧w'.cell? ⟨b,0,none⟩=some (.int .i64 k))
     (first | go_keep | exact ⟨(d.cell (p:=⟨w.heap.size+1,0,none⟩) (fw R.out)).trans W,(d.cell (p:=⟨b,0,none⟩) (fw B.out)).trans X⟩)
     ((go_at_call 88;refine (zq b k n m _ (by exact B.out)).mono ?_;rintro e w2 ⟨rfl,d⟩))
    go_wp2
    go_roundw
    case rel=>exact ⟨m+1,by omega,by go_num,i.trans (Below.mono ⟨d.os,d.tape,d.output,d.size,d.block⟩ Q)⟩
    case measure=>simp [intOf];omega
   ·have Y:(k==(m:Int))=false:=aC.2 j
    have Z:((m:Int)==k)=false:=aC.2 (fun e=>j e.symm)
    clear j
    go_wp2
    go_region_held3 (fun w'=>w'.cell? ⟨w.heap.size+1,0,none⟩=some (.pointer (some ⟨b,0,none⟩))∧w'.cell? ⟨b,0,none⟩=some (.int .i64 k))
     (first | go_keep | exact ⟨(d.cell (p:=⟨w.heap.size+1,0,none⟩) (fw R.out)).trans W,(d.cell (p:=⟨b,0,none⟩) (fw B.out)).trans X⟩)
     ((go_at_call 88;refine (zq b k n m _ (by exact B.out)).mono ?_;rintro e w2 ⟨rfl,d⟩))
    go_wp2
    go_roundw
    case rel=>exact ⟨m+1,by omega,by go_num,i.trans (Below.mono ⟨d.os,d.tape,d.output,d.size,d.block⟩ Q)⟩
    case measure=>simp [intOf];omega
  ·obtain rfl:m=15:=by omega
   go_wp2
   go_region_held3 (fun w'=>w'.cell? ⟨w.heap.size+1,0,none⟩=some (.pointer (some ⟨b,0,none⟩))∧w'.cell? ⟨b,0,none⟩=some (.int .i64 k)∧w'.cell? ⟨b,1,none⟩=some (.int .i64 n))
    (first | go_keep) (fail)
   go_wp2_with fail
   generalize y:((wr.alloc (.cells #[.int .i64 k,.int .i64 n,.int .i64 0] 38)).alloc (.cells #[.pointer none] 168)).drew=w3
   have e3:Below wr.heap.size wr w3:=by rw [←y];exact (((Below.refl _ wr).alloc (af _) _).alloc (by simp) _).drew
   have s3:w3.heap.size=wr.heap.size+1+1:=by rw [←y];simp
   have f3:w3.heap[wr.heap.size]?=some (.cells #[.int .i64 k,.int .i64 n,.int .i64 0] 38 (0,0)):=by rw [←y];exact fG _ _ (fA wr _)
   clear y
   have l:Below w.heap.size w w3:=(M.trans (i.mono (by omega))).trans (e3.mono (by omega))
   have u:w3.heap[w.heap.size]?=some (.cells #[.int .i64 0,.int .i64 0,.int .i64 0] 38 (0,0)):=fy e3 (by omega) (fy i (by omega) R1.out)
   refine (Fl b k n ⟨wr.heap.size+1,0,none⟩ w3 (fy l I HB.out) (S.new l).2).mono ?_
   rintro e C ⟨rfl,r⟩
   have G:=l.trans (r.mono (by have:=l.size;omega))
   have f40:C.cell? ⟨wr.heap.size,0,none⟩=some (.int .i64 k):=ae _ _ 0 _ _ _ (fy r (fw f3) f3)
   have f41:C.cell? ⟨wr.heap.size,1,none⟩=some (.int .i64 n):=ae _ _ 1 _ _ _ (fy r (fw f3) f3)
   have f42:C.cell? ⟨wr.heap.size,2,none⟩=some (.int .i64 0):=ae _ _ 2 _ _ _ (fy r (fw f3) f3)
   have x:=fy r (fw u) u
   have ag:C.cell? ⟨w.heap.size,0,none⟩=some (.int .i64 0):=ae _ _ 0 _ _ _ x
   have ak:C.cell? ⟨w.heap.size,1,none⟩=some (.int .i64 0):=ae _ _ 1 _ _ _ x
   have al:C.cell? ⟨w.heap.size,2,none⟩=some (.int .i64 0):=ae _ _ 2 _ _ _ x
   have z0:=aj _ _ 0 _ _ x
   have z1:=aj _ _ 1 _ _ x
   have z2:=aj _ _ 2 _ _ x
   clear f3 u x s3
   go_wp2
   refine aI (v := .agg #[.int .i64 k,.int .i64 n,.int .i64 0]) (by simp [results,Tryz.results45,go_sem,ag,ak,al]) rfl ⟨rfl,?_⟩
   exact ((G.setCell (p:=⟨w.heap.size,0,none⟩) (af _) _).setCell (p:=⟨w.heap.size,1,none⟩) (af _) _).setCell (p:=⟨w.heap.size,2,none⟩) (af _) _
end Go.Proofs.YtkkfmkhbdoeglaaGreatDoor
namespace Go.Proofs.YtkkfmkhbdoeglaaGreatDoor
open Go.RowKit
def mL (k n s:Int):Value := .agg #[.int .i64 k,.int .i64 n,.int .i64 s]
def pH (l:List UInt8):Value :=
 match gJ l with
 | .inl (k,p) => .tuple #[.int .i64 k.toNat,.string ⟨p.toArray⟩,mL 0 0 0]
 | .inr (k,n) => .tuple #[.int .i64 0,.string ⟨[].toArray⟩,mL k n 0]
theorem xH (l:List UInt8) {k n:Nat} (h:gJ l = .inr (k,n)):1≤k∧k≤14:=by
 by_cases hl:l.length<5
 ·unfold gJ at h
  rw [aB hl] at h
  cases h;omega
 ·obtain ⟨x,p,a,b,c,d,rfl⟩:=sj l hl
  rw [ml] at h
  split at h
  ·cases h
  ·cases h;omega
theorem zu (v:Value) (l:List UInt8) (k:UInt8) (p:List UInt8) (w:World) (b:BytesAt w v l) (hl:l.length≤fX) (hu:gJ l = .inl (k,p)) :
  Calls Tryz.prog 52 #[v] w fun e w'=>∃ v',e = .returned (.tuple #[.int .u8 k.toNat,v',.nilIface])∧OwnS w' w.heap.size 1 v' p.length (u8s p)∧Below w.heap.size w w' :=
 (qA v l w b hl).mono fun e w' ⟨d,h⟩=>by
  rw [hu] at h
  obtain ⟨v',h1,h2⟩:=h
  exact ⟨v',h1,h2,d⟩
theorem zV (v:Value) (l:List UInt8) (k n:Nat) (w:World) (b:BytesAt w v l) (hl:l.length≤fX) (hu:gJ l = .inr (k,n)) :
  Calls Tryz.prog 52 #[v] w fun e w'=>∃ ev,e = .returned (.tuple #[.int .u8 0,.slice none 0 0,ev])∧iJ w' w.heap.size ev k n∧Below w.heap.size w w' :=
 (qA v l w b hl).mono fun e w' ⟨d,h⟩=>by
  rw [hu] at h
  obtain ⟨v',h1,h2⟩:=h
  exact ⟨v',h1,h2,d⟩
theorem rq (l:List UInt8) (k:UInt8) (p:List UInt8) (w:World) (hl:l.length≤fX) (hu:gJ l = .inl (k,p)) :
  Calls Tryz.prog 19 #[.string ⟨l.toArray⟩] w fun e w'=>e = .returned (.tuple #[.int .i64 k.toNat,.string ⟨p.toArray⟩,mL 0 0 0])∧Below w.heap.size w w':=by
 have F:=ab hu
 clear hu
 have hk:=k.toNat_lt
 go_enter Tryz.func19,Tryz.ntmps19
 go_wp2_with (first
  | (refine kq rfl (.tmp 9) rfl l rfl hl ?_;intro cap w1 m o y;simp only [ax] at m o y)
  | (go_at_call 52;refine (zu _ l k p _ m.bytes hl F.out).mono ?_;rintro e w2 ⟨v2,rfl,j,q⟩))
 have s:w2.heap[w.heap.size]?=some (.cells #[.int .i64 0,.int .i64 0,.int .i64 0] 38 (0,0)):=fy q (by omega) (fy o (by omega) (fA w _))
 have G:=q.size
 have u:Below w.heap.size w w2:=((Below.refl _ w).alloc (af _) _).trans ((o.mono (by omega)).trans (q.mono (by omega)))
 have i:=ab s
 have I:IntKind.i64.wrap (k.toNat:Int)=(k.toNat:Int):=IntWalk.i64_in _ (by omega)
 have r:=j.apart (b:=w.heap.size) (by omega)
 clear s
 go_region_held3 (fun w'=>Sem.run Tryz.prog (convert 59 9 v2) w' = .ok (.string ⟨p.toArray⟩) w')
  (first
   | exact BytesAt.convert (w:=w2.drew) j.bytes
   | exact BytesAt.convert B
   | exact BytesAt.convert (((B.gh _ _ r).gh _ _ r).gh _ _ r))
  ((go_at_call 45;refine (pU _).mono ?_;rintro e w3 ⟨rfl,d⟩;
    have B:BytesAt w3 v2 p:=BytesAt.below (w:=w2.drew) j.bytes d;
    have C:w3.cell? ⟨w.heap.size,0,none⟩=some (.int .i64 0):=ae _ _ 0 _ _ _ (fy d (fw i.out) i.out);
    have D:w3.cell? ⟨w.heap.size,1,none⟩=some (.int .i64 0):=ae _ _ 1 _ _ _ (fy d (fw i.out) i.out);
    have E:w3.cell? ⟨w.heap.size,2,none⟩=some (.int .i64 0):=ae _ _ 2 _ _ _ (fy d (fw i.out) i.out);
    have J:w3.frozen? ⟨w.heap.size,0,none⟩=false:=aj _ _ 0 _ _ (fy d (fw i.out) i.out);
    have M:w3.frozen? ⟨w.heap.size,1,none⟩=false:=aj _ _ 1 _ _ (fy d (fw i.out) i.out);
    have N:w3.frozen? ⟨w.heap.size,2,none⟩=false:=aj _ _ 2 _ _ (fy d (fw i.out) i.out)))
 go_wp2
 refine aI (v := .tuple #[.int .i64 k.toNat,.string ⟨p.toArray⟩,.agg #[.int .i64 0,.int .i64 0,.int .i64 0]]) (by simp [results,Tryz.results19,go_sem,C,D,E]) rfl ⟨rfl,?_⟩
 have x:Below w.heap.size w2 w3:=⟨d.os,d.tape,d.output,d.size,fun k hk=>d.block k (ay hk u.size)⟩
 exact (((u.trans x).setCell (p:=⟨w.heap.size,0,none⟩) (af _) _).setCell (p:=⟨w.heap.size,1,none⟩) (af _) _).setCell (p:=⟨w.heap.size,2,none⟩) (af _) _
theorem sO (l:List UInt8) (k n:Nat) (w:World) (D:ErrVar w) (hl:l.length≤fX) (hu:gJ l = .inr (k,n)) :
  Calls Tryz.prog 19 #[.string ⟨l.toArray⟩] w fun e w'=>e = .returned (.tuple #[.int .i64 0,.string ⟨[].toArray⟩,mL k n 0])∧Below w.heap.size w w':=by
 have u:=ab hu
 clear hu
 have hk:=xH l u.out
 go_enter Tryz.func19,Tryz.ntmps19
 go_wp2_with (first
  | (refine kq rfl (.tmp 9) rfl l rfl hl ?_;intro cap w1 i j x;simp only [ax] at i j x)
  | (go_at_call 52;refine (zV _ l k n _ i.bytes hl u.out).mono ?_;rintro e w2 ⟨ev,rfl,⟨g,rfl,F,q⟩,m⟩;have E:=ab q;clear q))
 have r:w2.heap[w.heap.size]?=some (.cells #[.int .i64 0,.int .i64 0,.int .i64 0] 38 (0,0)):=fy m (by omega) (fy j (by omega) (fA w _))
 have G:=m.size
 have o:Below w.heap.size w w2:=((Below.refl _ w).alloc (af _) _).trans ((j.mono (by omega)).trans (m.mono (by omega)))
 have d:=ab r
 have I:IntKind.i64.wrap 0=0:=by decide
 clear r
 go_region_held3 (fun w'=>Sem.run Tryz.prog (convert 59 9 (.slice none 0 0)) w' = .ok (.string ⟨[].toArray⟩) w')
  (exact BytesAt.convert (BytesAt.nil _ _ _))
  ((go_at_call 45;refine (nh g k n _ (by exact (D.new o.drew)) (by exact E.out) (by omega) (by omega)).mono ?_;rintro e w3 ⟨rfl,b⟩;
    have y:w3.cell? ⟨w.heap.size,0,none⟩=some (.int .i64 0):=ae _ _ 0 _ _ _ (fy b (fw d.out) d.out);
    have B:w3.cell? ⟨w.heap.size,1,none⟩=some (.int .i64 0):=ae _ _ 1 _ _ _ (fy b (fw d.out) d.out);
    have C:w3.cell? ⟨w.heap.size,2,none⟩=some (.int .i64 0):=ae _ _ 2 _ _ _ (fy b (fw d.out) d.out);
    have J:w3.frozen? ⟨w.heap.size,0,none⟩=false:=aj _ _ 0 _ _ (fy b (fw d.out) d.out);
    have M:w3.frozen? ⟨w.heap.size,1,none⟩=false:=aj _ _ 1 _ _ (fy b (fw d.out) d.out);
    have N:w3.frozen? ⟨w.heap.size,2,none⟩=false:=aj _ _ 2 _ _ (fy b (fw d.out) d.out)))
 go_wp2
 refine aI (v := .tuple #[.int .i64 0,.string ⟨[].toArray⟩,.agg #[.int .i64 k,.int .i64 n,.int .i64 0]]) (by simp [results,Tryz.results19,go_sem,y,B,C]) rfl ⟨rfl,?_⟩
 have s:Below w.heap.size w2 w3:=⟨b.os,b.tape,b.output,b.size,fun k hk=>b.block k (ay hk o.size)⟩
 exact (((o.trans s).setCell (p:=⟨w.heap.size,0,none⟩) (af _) _).setCell (p:=⟨w.heap.size,1,none⟩) (af _) _).setCell (p:=⟨w.heap.size,2,none⟩) (af _) _
theorem oT (l:List UInt8) (w:World) (d:ErrVar w) (hl:l.length≤fX) :
  Calls Tryz.prog 19 #[.string ⟨l.toArray⟩] w fun e w'=>e = .returned (pH l)∧Below w.heap.size w w':=by
 cases h:gJ l with
 | inl x =>
  refine (rq l x.1 x.2 w hl h).mono fun e w' ⟨he,b⟩=>⟨?_,b⟩
  unfold pH
  rw [h]
  exact he
 | inr x =>
  refine (sO l x.1 x.2 w d hl h).mono fun e w' ⟨he,b⟩=>⟨?_,b⟩
  unfold pH
  rw [h]
  exact he
end Go.Proofs.YtkkfmkhbdoeglaaGreatDoor
namespace Go.Proofs.YtkkfmkhbdoeglaaGreatDoor
open Go.RowKit
def jo (c n:Int):Int:=if c<0 then (-(c+1))%n else c%n
theorem jx (c n:Int) (b:0<n):0≤jo c n∧jo c n<n:=by
 unfold jo
 split
 ·exact ⟨Int.emod_nonneg _ (by omega),Int.emod_lt_of_pos _ b⟩
 ·exact ⟨Int.emod_nonneg _ (by omega),Int.emod_lt_of_pos _ b⟩
end Go.Proofs.YtkkfmkhbdoeglaaGreatDoor
namespace Go.Proofs.YtkkfmkhbdoeglaaGreatDoor
open Go.RowKit
structure ow (w:World) (fb q r:Nat) (S:List E):Prop where
 cell:w.cell? ⟨fb,0,none⟩=some (.pointer (some ⟨q,0,none⟩))
 ent:EntAt w q 0 r S
theorem ow.below {w w':World} {fb q r:Nat} {S:List E} (h:ow w fb q r S) (b:Below w.heap.size w w'):ow w' fb q r S :=
 ⟨(b.cell (p:=⟨fb,0,none⟩) (fE h.cell)).trans h.cell,h.ent.below b⟩
theorem ow.step {w w':World} {fb q r:Nat} {S T:List E} (h:ow w fb q r S) (b:Ext (fun i=>i=r) w w') (d:TabAt w' r T):ow w' fb q r T:=⟨b.cell (me h.cell h.ent.tab) h.cell,h.ent.step b d⟩
theorem ow.other {w w':World} {fb q r b:Nat} {S:List E} (h:ow w fb q r S) (d:Ext (fun i=>i=b) w w') (j:fb≠b) (hq:q≠b) (l:r≠b):ow w' fb q r S :=
 ⟨d.cell j h.cell,d.cell hq h.ent.cell,h.ent.tab.fP (d.block r h.ent.tab.lt l)⟩
def EA (v:Nat) (S:List E) (os:List OpB):List E:=match gE v os with
 | none=>foldS S os
 | some _=>S
end Go.Proofs.YtkkfmkhbdoeglaaGreatDoor
