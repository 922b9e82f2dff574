/- A part of what is proved here: lemmas and contracts of single functions. No condition but those that each names. -/
import Derived.Test.YtkkfmkhbdoeglabGreatDoorG00
import Derived.BigQuiet
import Derived.BigRegion
import Derived.Deep.QuietTactic
import Derived.Deep.RegionWith
import Derived.LoopIn
import Derived.LoopNIn
import Derived.Maps.AppendAt
import Derived.OwnWalkIn
import Derived.RangeFuncBound
import Derived.RangeFuncBox
import Derived.RangeFuncCalls
import Derived.RangeFuncGives
import Derived.RangeFuncLeaves
import Derived.RangeFuncMany
import Derived.RangeFuncNested
import Derived.Shelf.Abstract
import Derived.Shelf.RegionOpen
import Derived.Shelf.SlSortCmp.NoneTotal
import Derived.StillTailTactics
import Derived.TacticsInMore
import Derived.WalkKit
import Derived.WalkLawsBesides
import Derived.Test.YtkkfmkhbdoeglabGreatDoorG02
import Derived.Test.YtkkfmkhbdoeglabGreatDoorG06
import Derived.Test.YtkkfmkhbdoeglabGreatDoorG07
set_option maxHeartbeats 4000000
set_option maxRecDepth 100000
namespace Go.Proofs.YtkkfmkhbdoeglabGreatDoor
open Go.RowKit
theorem s9:∀ u:World,(zeroValue 226).run Tryz.prog u = .ok (kU []) u:=fun u=>by kernel_rfl
theorem nk {w:World} {b o r:Nat} {v:Value} {S:List E} (h:w.cell? ⟨b,o,none⟩=some v) (d:TabAt w r S):b≠r:=by
 intro e
 subst e
 obtain ⟨-,L,⟨es,clock,i,-⟩,-⟩:=d
 unfold World.cell? at h
 rw [i] at h
 cases h
theorem ix.tD {w w':World} {v:Value} {os:List OpB} {r:Nat} {S:List E} (h:ix w v os) (l:TabAt w r S) (m:Ext (fun i=>i=r) w w'):ix w' v os:=by
 obtain ⟨hl,a,cap,rfl,hc,d⟩:=h
 refine ⟨hl,a,cap,rfl,hc,fun i o => ?_⟩
 obtain ⟨b,off,rfl,j⟩:=d i o
 exact ⟨b,off,rfl,m.cell (nk j l) j⟩
structure EntAt (w:World) (b off r:Nat) (S:List E):Prop where
 cell:w.cell? ⟨b,off,none⟩=some (.map (some r))
 tab:TabAt w r S
theorem EntAt.lt {w:World} {b off r:Nat} {S:List E} (h:EntAt w b off r S):b<w.heap.size:=fU h.cell
theorem EntAt.ne {w:World} {b off r:Nat} {S:List E} (h:EntAt w b off r S):b≠r:=nk h.cell h.tab
theorem EntAt.below {w w':World} {b off r:Nat} {S:List E} (h:EntAt w b off r S) (d:Below w.heap.size w w'):EntAt w' b off r S :=
 ⟨(d.cell (p:=⟨b,off,none⟩) h.lt).trans h.cell,h.tab.gr (d.block r h.tab.lt)⟩
theorem EntAt.step {w w':World} {b off r:Nat} {S T:List E} (h:EntAt w b off r S) (d:Ext (fun i=>i=r) w w') (j:TabAt w' r T):EntAt w' b off r T:=⟨d.cell h.ne h.cell,j⟩
theorem mM (w:World) :
  Calls Tryz.prog 92 #[] w fun e w'=>e = .returned (.pointer (some ⟨w.heap.size+1,0,none⟩))∧EntAt w' (w.heap.size+1) 0 w.heap.size []∧Below w.heap.size w w'∧w'.heap.size=w.heap.size+2:=by
 have d := @run_makeMap Tryz.prog
 go_enter Tryz.func92,Tryz.ntmps92
 go_wp2
 go_ret
 have b:Below (w.alloc (.map #[] 0)).heap.size (w.alloc (.map #[] 0)) ((w.alloc (.map #[] 0)).alloc (.cells #[.map (some w.heap.size)] 166)):=(Below.refl _ _).alloc (af _) _
 have hc:=lY (w.alloc (.map #[] 0)) #[.map (some w.heap.size)] 166 (0,0) 0
 rw [aw] at hc
 exact ⟨rfl,⟨hc,(TabAt.new w).gr (b.block _ (by simp))⟩,((Below.refl _ w).alloc (af _) _).alloc (by simp) _,by simp⟩
def p5 (w:World) (r:Nat) (S:List E) (os:List OpB) (i:Value) (wr:World):Prop :=
 ∃ k:Nat,k≤os.length∧i = .int .i64 (k:Int)∧TabAt wr r (foldS S (os.take k))∧Ext (fun i=>i=r) w wr
theorem p5.step {w wr W b:World} {r k:Nat} {S:List E} {os:List OpB} (hk:k<os.length) (d:Ext (fun i=>i=r) w wr) (j:Below wr.heap.size wr W) (l:W.grownBy b (some r)) (m:TabAt b r (ET (foldS S (os.take k)) os[k])) :
  p5 w r S os (.int .i64 ((k+1:Nat):Int)) b.drew :=
 ⟨k+1,hk,rfl,by rw [CF _ _ _ hk];exact m,((d.rT j).grow l (.inl rfl)).drew⟩
theorem tf (b off r:Nat) (S:List E) (v:Nat) (V:Value) (os:List OpB) (w:World) (he:EntAt w b off r S) (hs:ix w V os) (hlen:os.length≤2932031007402) :
  Calls Tryz.prog 132 #[.pointer (some ⟨b,off,none⟩),.agg #[.int .u64 v,V]] w fun e w'=>e = .returned (.tuple #[])∧TabAt w' r (foldS S os)∧Ext (fun i=>i=r) w w':=by
 obtain ⟨a,cap,rfl,ag,-⟩:=hs.opened
 have s:Below w.heap.size w (w.alloc (.cells #[.int .u64 (v:Int),.slice a os.length cap] 51)):=(Below.refl _ w).alloc (af _) _
 have J:=ab (he.below s)
 have W:=ab (hs.below s)
 have ak:=he.lt
 have O:Ext (fun i=>i=r) w (w.alloc (.cells #[.int .u64 (v:Int),.slice a os.length cap] 51)):=Ext.fT s
 clear hs he
 go_enter Tryz.func132,Tryz.ntmps132
 go_wp2
 generalize Q:w.alloc (.cells #[.int .u64 (v:Int),.slice a os.length cap] 51)=w0
 rw [Q] at J W O s
 clear Q
 go_loopw [9] (fun i wr=>p5 w0 r S os i wr) (fun i _=>os.length-(intOf i).toNat)
 case atStart=>exact ⟨0,aM _,rfl,J.out.tab,Ext.refl _ _⟩
 case round =>
  obtain ⟨k,hk,rfl,d,y⟩:=hrel
  by_cases C:k<os.length
  ·have am:(k:Int)<os.length:=by omega
   have av:=y.size
   obtain ⟨a',cap',he,-,u⟩:=(W.out.tD J.out.tab y).opened
   cases he
   obtain ⟨ob,oo,rfl,c0,c1,c2,c3⟩:=u k C
   have X:=(J.out.step y d).cell
   have aE:=fU X
   have a0:=fU c0
   clear u
   have M:=ab d
   clear d
   obtain ⟨o,R⟩:∃ o,os[k]=o:=⟨_,rfl⟩
   have Y:=ab R
   rw [R] at c0 c1 c2 c3
   clear R
   obtain ⟨D,T,B,N⟩:=o
   have F:Below wr.heap.size wr (wr.alloc (.cells #[.int .i64 D,.int .i64 T,.string ⟨B.toArray⟩,.string ⟨N.toArray⟩] 105)):=(Below.refl _ wr).alloc (af _) _
   have x:TabAt (wr.alloc (.cells #[.int .i64 D,.int .i64 T,.string ⟨B.toArray⟩,.string ⟨N.toArray⟩] 105)) r (foldS S (os.take k)):=M.out.gr (F.block r M.out.lt)
   by_cases l:D=1
   ·obtain ⟨W1,hu,m,G,Z⟩:=x.put (mt:=162) Tryz.underlying162 (T,B) N
    have aa:(D==1)=true:=by rw [a8];exact l
    have U:Hid (ET (foldS S (os.take k)) os[k]=ke (T,B) N (foldS S (os.take k))):=ab (by rw [Y.out];exact aD l)
    have q:=hu 1
    have j:∀ w:World,w.drewN 1=w.drew:=fun _=>rfl
    rw [j,j] at q
    simp only [kV,jh,kU] at q
    have I:=ab m
    clear hu j l x m
    go_wp2
    go_region
    go_wp2
    refine ⟨p5.step C y F G (by rw [U.out];exact I.out),?_⟩
    simp [intOf]
    omega
   ·obtain ⟨W1,hu,m,G,Z⟩:=x.drop (mt:=162) Tryz.underlying162 (T,B) 103 0
    have aa:(D==1)=false:=by rw [aA];exact l
    have U:Hid (ET (foldS S (os.take k)) os[k]=ot (T,B) (foldS S (os.take k))):=ab (by rw [Y.out];exact au l)
    have q:=hu 1
    have j:∀ w:World,w.drewN 1=w.drew:=fun _=>rfl
    rw [j,j] at q
    simp only [kV,jh] at q
    have I:=ab m
    clear hu j l x m
    go_wp2
    go_region
    go_wp2
    refine ⟨p5.step C y F G (by rw [U.out];exact I.out),?_⟩
    simp [intOf]
    omega
  ·obtain rfl:k=os.length:=by omega
   have a1:¬(os.length:Int)<os.length:=by omega
   rw [bC] at d
   have M:=ab d
   clear d
   go_wp2
   go_end0
   exact ⟨rfl,M.out,O.trans y⟩
end Go.Proofs.YtkkfmkhbdoeglabGreatDoor
namespace Go.Proofs.YtkkfmkhbdoeglabGreatDoor
open Go.RowKit
theorem wo (x:Int) (w:World):Calls Tryz.prog 203 #[.int .i64 x] w fun e w'=>e = .returned (.bool false)∧w=w':=by
 have h:(x != x)=false:=by simp
 go_enter Tryz.func203,Tryz.ntmps203
 go_wp2
 go_ret
 exact ⟨rfl,rfl⟩
theorem wu (x:List UInt8) (w:World):Calls Tryz.prog 204 #[.string ⟨x.toArray⟩] w fun e w'=>e = .returned (.bool false)∧w=w':=by
 have h:(x==x)=true:=by simp
 go_enter Tryz.func204,Tryz.ntmps204
 go_wp2
 go_ret
 exact ⟨rfl,rfl⟩
def po (a b:Int):Int:=if a<b then -1 else if b<a then 1 else 0
def p8 (a b:List UInt8):Int:=if a<b then -1 else if b<a then 1 else 0
def oQ (a b:K):Int:=if po a.1 b.1≠0 then po a.1 b.1 else p8 a.2 b.2
theorem vK (a b:Int) (w:World):Calls Tryz.prog 179 #[.int .i64 a,.int .i64 b] w fun e w'=>e = .returned (.int .i64 (po a b))∧w=w':=by
 rcases dU a b with h | h | h
 ·have d:Hid (po a b = -1):=ab (by unfold po;rw [aD h])
  go_enter Tryz.func179,Tryz.ntmps179
  go_wp2_with (go_at_call 203;refine (wo _ _).mono ?_;rintro e w' ⟨rfl,rfl⟩)
  go_ret
  exact ⟨by rw [d.out];rfl,rfl⟩
 ·subst h
  have d:Hid (po a a=0):=ab (by unfold po;simp)
  go_enter Tryz.func179,Tryz.ntmps179
  go_wp2_with (go_at_call 203;refine (wo _ _).mono ?_;rintro e w' ⟨rfl,rfl⟩)
  go_ret
  exact ⟨by rw [d.out];rfl,rfl⟩
 ·have i:¬a<b:=by omega
  have d:Hid (po a b=1):=ab (by unfold po;rw [au i,aD h])
  go_enter Tryz.func179,Tryz.ntmps179
  go_wp2_with (go_at_call 203;refine (wo _ _).mono ?_;rintro e w' ⟨rfl,rfl⟩)
  go_ret
  exact ⟨by rw [d.out];rfl,rfl⟩
theorem IK (a b:List UInt8):a<b∨a=b∨b<a:=by
 by_cases h1:a<b
 ·exact .inl h1
 ·by_cases h2:b<a
  ·exact .inr (.inr h2)
  ·exact .inr (.inl (List.le_antisymm (List.not_lt.1 h2) (List.not_lt.1 h1)))
theorem vL (a b:List UInt8) (w:World):Calls Tryz.prog 180 #[.string ⟨a.toArray⟩,.string ⟨b.toArray⟩] w fun e w'=>e = .returned (.int .i64 (p8 a b))∧w=w':=by
 rcases IK a b with h | h | h
 ·have d:Hid (p8 a b = -1):=ab (by unfold p8;rw [aD h])
  have i:Op.bytesLess a b=true:=by rw [bytesLess_eq];exact cK h
  clear h
  go_enter Tryz.func180,Tryz.ntmps180
  go_wp2_with (go_at_call 204;refine (wu _ _).mono ?_;rintro e w' ⟨rfl,rfl⟩)
  go_ret
  exact ⟨by rw [d.out];rfl,rfl⟩
 ·subst h
  have d:Hid (p8 a a=0):=ab (by unfold p8;simp [eW])
  have i:Op.bytesLess a a=false:=by rw [bytesLess_eq];exact bY (eW a)
  have hq:(a==a)=true:=ei a
  go_enter Tryz.func180,Tryz.ntmps180
  go_wp2_with (go_at_call 204;refine (wu _ _).mono ?_;rintro e w' ⟨rfl,rfl⟩)
  go_ret
  exact ⟨by rw [d.out];rfl,rfl⟩
 ·have h1:¬a<b:=fun j=>eW a (List.lt_trans j h)
  have h2:a≠b:=fun e=>eW a (by rw [e] at h⊢;exact h)
  have d:Hid (p8 a b=1):=ab (by unfold p8;rw [au h1,aD h])
  have i:Op.bytesLess a b=false:=by rw [bytesLess_eq];exact bY h1
  have hq:(a==b)=false:=by rw [aA];exact h2
  clear h h1 h2
  go_enter Tryz.func180,Tryz.ntmps180
  go_wp2_with (go_at_call 204;refine (wu _ _).mono ?_;rintro e w' ⟨rfl,rfl⟩)
  go_ret
  exact ⟨by rw [d.out];rfl,rfl⟩
theorem Bh (w:World) (a b c:Obj):(((w.alloc a).alloc b).alloc c).drew=Sort.grow (w.drewN 1) #[a,b,c]:=by
 have h:((w.heap.push a).push b).push c=w.heap++#[a,b,c]:=by
  apply Array.ext'
  simp
 unfold Sort.grow World.alloc World.drew World.drewN
 simp [h]
theorem IU (B cap:Nat) (x y:Int) (w:World) (r:w.cell? ⟨B,0,none⟩=some (.int .i64 x)) (h1:w.cell? ⟨B,1,none⟩=some (.int .i64 y)) :
  Calls Tryz.prog 178 #[.slice (some ⟨B,0,none⟩) 2 cap] w fun e w'=>e = .returned (.int .i64 (if x≠0 then x else y))∧w=w':=by
 obtain ⟨z,l⟩:∃ z,z=if x≠0 then x else y:=⟨_,rfl⟩
 rw [←l]
 have m:=ab l
 clear l
 go_enter Tryz.func178,Tryz.ntmps178
 go_wp2
 go_loop [8] (fun i=>i = .int .i64 0∨(i = .int .i64 1∧x=0)∨(i = .int .i64 2∧x=0∧y=0)) (fun i=>2-(intOf i).toNat)
 case atStart=>exact .inl rfl
 case round =>
  rcases hrel with rfl | ⟨rfl,b⟩ | ⟨rfl,b,d⟩
  ·by_cases b:x=0
   ·have o:(x != 0)=false:=by simp [b]
    have j:=ab b
    clear b
    go_wp2
    exact ⟨.inr (.inl ⟨rfl,j.out⟩),by simp [intOf]⟩
   ·have o:(x != 0)=true:=by simp [b]
    have HV:Hid (z=x):=ab (by rw [m.out,aD b])
    clear b
    go_wp2
    go_ret
    exact ⟨by rw [HV.out];rfl,rfl⟩
  ·have j:=ab b
   clear b
   by_cases d:y=0
   ·have o:(y != 0)=false:=by simp [d]
    have q:=ab d
    clear d
    go_wp2
    exact ⟨.inr (.inr ⟨rfl,j.out,q.out⟩),by simp [intOf]⟩
   ·have o:(y != 0)=true:=by simp [d]
    have HV:Hid (z=y):=ab (by rw [m.out,au (by rw [j.out];simp)])
    clear d
    go_wp2
    go_ret
    exact ⟨by rw [HV.out];rfl,rfl⟩
  ·have HV:Hid (z=0):=ab (by rw [m.out,au (by rw [b];simp),d])
   clear b d
   go_wp2
   go_ret
   exact ⟨by rw [HV.out];rfl,rfl⟩
theorem yu (a b:K) (w:World) :
  Calls Tryz.prog 138 #[.agg #[.int .i64 a.1,.string ⟨a.2.toArray⟩],.agg #[.int .i64 b.1,.string ⟨b.2.toArray⟩]] w fun e w'=>e = .returned (.int .i64 (oQ a b))∧∃ q u,w'=Sort.grow (w.drewN q) u:=by
 obtain ⟨at',i⟩:=a
 obtain ⟨d,j⟩:=b
 simp only
 go_enter Tryz.func138,Tryz.ntmps138
 go_wp2
 have x:Below w.heap.size w ((w.alloc (.cells #[.int .i64 at',.string ⟨i.toArray⟩] 103)).alloc (.cells #[.int .i64 d,.string ⟨j.toArray⟩] 103)):=((Below.refl _ w).alloc (af _) _).alloc (by simp) _
 have r:=fX _ (.cells #[.int .i64 d,.string ⟨j.toArray⟩] 103) (fR w (.cells #[.int .i64 at',.string ⟨i.toArray⟩] 103))
 have m:=fR (w.alloc (.cells #[.int .i64 at',.string ⟨i.toArray⟩] 103)) (.cells #[.int .i64 d,.string ⟨j.toArray⟩] 103)
 rw [aw] at m
 generalize o:(w.alloc (.cells #[.int .i64 at',.string ⟨i.toArray⟩] 103)).alloc (.cells #[.int .i64 d,.string ⟨j.toArray⟩] 103)=l at *
 have y:=ab o
 clear o x
 have a0:=ae _ _ 0 _ _ _ r
 have a1:=ae _ _ 1 _ _ _ r
 have b0:=ae _ _ 0 _ _ _ m
 have C:=ae _ _ 1 _ _ _ m
 clear r m
 refine wp_region_still_tail 10 (by kernel_rfl) (by kernel_rfl) ?_
 simp only [bA,cd,fj,cy]
 repeat still_step
 still_call ((vK _ _ _).mono (fun e B h=>⟨h.1,h.2.symm⟩))
 repeat still_step
 still_call ((vL _ _ _).mono (fun e B h=>⟨h.1,h.2.symm⟩))
 refine wpStill_nil ?_
 clear a0 a1 b0 C
 go_wp2_with fail
 have s:=fR l (.cells #[.int .i64 (po at' d),.int .i64 (p8 i j)] 3)
 refine (IU l.heap.size 2 (po at' d) (p8 i j) (l.alloc (.cells #[.int .i64 (po at' d),.int .i64 (p8 i j)] 3)).drew (ae (l.alloc (.cells #[.int .i64 (po at' d),.int .i64 (p8 i j)] 3)) _ 0 _ _ _ s) (ae (l.alloc (.cells #[.int .i64 (po at' d),.int .i64 (p8 i j)] 3)) _ 1 _ _ _ s)).mono ?_
 rintro e w3 ⟨rfl,rfl⟩
 clear s
 rw [show (if po at' d≠0 then po at' d else p8 i j)=oQ (at',i) (d,j) from rfl]
 go_wp2
 go_ret
 refine ⟨rfl,1,#[.cells #[.int .i64 at',.string ⟨i.toArray⟩] 103,.cells #[.int .i64 d,.string ⟨j.toArray⟩] 103,.cells #[.int .i64 (po at' d),.int .i64 (p8 i j)] 3],?_⟩
 rw [←y.out]
 exact Bh _ _ _ _
end Go.Proofs.YtkkfmkhbdoeglabGreatDoor
namespace Go.Proofs.YtkkfmkhbdoeglabGreatDoor
open Go.Shelf
def E7:Go.Shelf.Ren:=⟨fun | 6=>176 | 15=>202 | 14=>201 | 28=>215 | 29=>216 | 20=>207 | 21=>208 | 22=>209 | 23=>210 | 24=>211 | 25=>212 | 26=>213 | 27=>214 | 46=>217 | 47=>218 | 48=>219 | 49=>220 | 50=>221 | 57=>222 | n=>n,fun | 22=>220 | 24=>103 | 25=>227 | 3=>3 | 39=>200 | 0=>0 | 53=>199 | 55=>48 | 4=>4 | 46=>328 | 45=>327 | 50=>268 | 5=>5 | 9=>9 | 66=>335 | 70=>338 | 76=>340 | 77=>282 | n=>n,fun | n=>n⟩
theorem Iu:Go.Proofs.SlLaysF0.n6 Tryz.prog E7 := {
 mixed:=by kernel_rfl
 f6:=⟨Tryz.f176.name,by decide,Tryz.func176.trans (aZ some (by kernel_rfl))⟩
 f14:=⟨Tryz.f201.name,by decide,Tryz.func201.trans (aZ some (by kernel_rfl))⟩
 f15:=Tryz.func202.trans (aZ some (by kernel_rfl))
 f20:=⟨Tryz.f207.name,by decide,Tryz.func207.trans (aZ some (by kernel_rfl))⟩
 f21:=⟨Tryz.f208.name,by decide,Tryz.func208.trans (aZ some (by kernel_rfl))⟩
 f22:=⟨Tryz.f209.name,by decide,Tryz.func209.trans (aZ some (by kernel_rfl))⟩
 f23:=⟨Tryz.f210.name,by decide,Tryz.func210.trans (aZ some (by kernel_rfl))⟩
 f24:=⟨Tryz.f211.name,by decide,Tryz.func211.trans (aZ some (by kernel_rfl))⟩
 f25:=⟨Tryz.f212.name,by decide,Tryz.func212.trans (aZ some (by kernel_rfl))⟩
 f26:=⟨Tryz.f213.name,by decide,Tryz.func213.trans (aZ some (by kernel_rfl))⟩
 f27:=⟨Tryz.f214.name,by decide,Tryz.func214.trans (aZ some (by kernel_rfl))⟩
 f28:=Tryz.func215.trans (aZ some (by kernel_rfl))
 f29:=Tryz.func216.trans (aZ some (by kernel_rfl))
 f46:=⟨Tryz.f217.name,by decide,Tryz.func217.trans (aZ some (by kernel_rfl))⟩
 f47:=Tryz.func218.trans (aZ some (by kernel_rfl))
 f48:=Tryz.func219.trans (aZ some (by kernel_rfl))
 f49:=⟨Tryz.f220.name,by decide,Tryz.func220.trans (aZ some (by kernel_rfl))⟩
 f50:=⟨Tryz.f221.name,by decide,Tryz.func221.trans (aZ some (by kernel_rfl))⟩
 f57:=⟨Tryz.f222.name,by decide,Tryz.func222.trans (aZ some (by kernel_rfl))⟩
 t0:=Tryz.underlying0
 a0:=Tryz.isAgg0
 z0:=Tryz.sizeOf0
 v0:=Tryz.zeroValue0
 t3:=Tryz.underlying3
 a3:=Tryz.isAgg3
 z3:=Tryz.sizeOf3
 v3:=Tryz.zeroValue3
 t4:=Tryz.underlying4
 a4:=Tryz.isAgg4
 z4:=Tryz.sizeOf4
 v4:=Tryz.zeroValue4
 t5:=Tryz.underlying5
 a5:=Tryz.isAgg5
 z5:=Tryz.sizeOf5
 v5:=Tryz.zeroValue5
 t9:=Tryz.underlying9
 a9:=Tryz.isAgg9
 z9:=Tryz.sizeOf9
 v9:=Tryz.zeroValue9
 t22:=Tryz.underlying220
 a22:=Tryz.isAgg220
 z22:=Tryz.sizeOf220
 v22:=Tryz.zeroValue220
 t25:=Tryz.underlying227
 a25:=Tryz.isAgg227
 z25:=Tryz.sizeOf227
 v25:=Tryz.zeroValue227
 t39:=Tryz.underlying200
 a39:=Tryz.isAgg200
 z39:=Tryz.sizeOf200
 v39:=Tryz.zeroValue200
 t45:=Tryz.underlying327
 a45:=Tryz.isAgg327
 z45:=Tryz.sizeOf327
 v45:=Tryz.zeroValue327
 t46:=Tryz.underlying328
 a46:=Tryz.isAgg328
 z46:=Tryz.sizeOf328
 v46:=Tryz.zeroValue328
 t50:=Tryz.underlying268
 a50:=Tryz.isAgg268
 z50:=Tryz.sizeOf268
 v50:=Tryz.zeroValue268
 t53:=Tryz.underlying199
 a53:=Tryz.isAgg199
 z53:=Tryz.sizeOf199
 v53:=Tryz.zeroValue199
 t55:=Tryz.underlying48
 a55:=Tryz.isAgg48
 z55:=Tryz.sizeOf48
 v55:=Tryz.zeroValue48
 t66:=Tryz.underlying335
 a66:=Tryz.isAgg335
 z66:=Tryz.sizeOf335
 v66:=Tryz.zeroValue335
 t70:=Tryz.underlying338
 a70:=Tryz.isAgg338
 z70:=Tryz.sizeOf338
 v70:=Tryz.zeroValue338
 t76:=Tryz.underlying340
 a76:=Tryz.isAgg340
 z76:=Tryz.sizeOf340
 v76:=Tryz.zeroValue340
 t77:=Tryz.underlying282
 a77:=Tryz.isAgg282
 z77:=Tryz.sizeOf282
 v77:=Tryz.zeroValue282}
end Go.Proofs.YtkkfmkhbdoeglabGreatDoor
namespace Go.Proofs.YtkkfmkhbdoeglabGreatDoor
open Go.RowKit Go.Shelf
attribute [local go_sem] Oper.semAt_some
theorem gB.of_walks {w w':World} {r q:Nat} {l pre:List (K×Value)} (h:gB w r q l pre) (hk:KeepsWalks w w'):gB w' r q l pre:=by
 obtain ⟨zs,d,clock,since,c0,h1,h2,i,b,rest⟩:=h
 exact ⟨zs,d,clock,since,c0,h1,h2,hk.same r _ i rfl,hk.same q _ b rfl,rest⟩
theorem gB.iter_walk {w:World} {r q:Nat} {l pre:List (K×Value)} (h:gB w r q l pre):∃ o:Obj,w.heap[q]?=some o∧o.isWalk=true:=by
 obtain ⟨zs,d,clock,since,c0,h1,h2,i,b,rest⟩:=h
 exact ⟨_,b,rfl⟩
theorem CR (F:Fence) (n:Nat) (hf:F.fn 177) (O:F.round=none) (hn:1≤n) (j b:Nat) (S:List E) (w:World) (Q:j<w.heap.size) (hm:w.cell? ⟨j,0,none⟩=some (.map (some b))) (ht:TabAt w b S) :
  SeqStopsA F n Tryz.prog 177 #[.pointer (some ⟨j,0,none⟩)] (fun k:K=>#[kV k]) (fun xs=>xs.Perm (S.map (·.1))) (fun _=>True) S.length w:=by
 intro l J Jx W R D a2 hY h0
 obtain ⟨-,L,m,U⟩:=ht
 have s:fY W b L:=m.gr (R.block _ m.lt)
 have a3:W.cell? ⟨j,0,none⟩=some (.map (some b)):=(R.cell (p:=⟨j,0,none⟩) Q).trans hm
 have hlen:L.length=S.length:=by rw [U.length_eq,aG]
 have u:(L.map (·.1)).Perm (S.map (·.1)):=by
  have:=U.map (·.1)
  rw [qM] at this
  exact this
 refine callsIn_of_wp Tryz.func177 rfl hf ?_ O
 try simp only [Tryz.ntmps177,dC,ar,aJ,Nat.reduceAdd,Nat.reduceSub,bf,bu,bT,dG,aO,aX]
 gi_wp2_with (first
  | (gi_at_range;refine oF rfl _ rfl Tryz.underlying162 rfl s ?_;intro w0 G d a4)
  | gi_in)
 try go_frame
 gi_loopw [3] (fun _ wr=>∃ pre,gB wr b W.heap.size L pre∧J (pre.map (·.1)) wr) (fun _ wr=>wr.rangeLeft b W.heap.size)
 case atStart =>
  exact ⟨[],G,D [] W w0 none h0 ⟨d.os,d.tape,d.output,d.size,fun k hk _=>d.block k hk⟩ (fun r e=>by cases e)⟩
 case round =>
  obtain ⟨pre,o,C⟩:=hrel
  gi_wp2_with (first
   | (gi_at_next;refine o8 rfl _ rfl rfl o ?_ ?_)
   | gi_in)
  ·intro V
   gi_wp2
   go_end0
   exact ⟨⟨_,rfl⟩,.inl ⟨_,(V.map _).trans u,C⟩⟩
  ·intro x y v w2 hx a5 i X Y a6 a7
   have Z:J (pre.map (·.1)) w2:=D _ wr w2 (some W.heap.size) C X (fun r e=>by cases e;exact ⟨af _,o.iter_walk⟩)
   have aa:(pre.map (·.1)).length<S.length:=by
    have h1:=i.left
    rw [aG]
    simp at h1
    omega
   have I:J (pre.map (·.1)) (w2.alloc (.cells #[.int .i64 x,.string ⟨y.toArray⟩] 103)):=D _ w2 _ none Z (dH w2 _ none) (fun r e=>by cases e)
   have B:=i.of_walks (KeepsWalks.alloc w2 (.cells #[.int .i64 x,.string ⟨y.toArray⟩] 103))
   obtain ⟨fn,tmps,assign,body,hy,hR⟩:=hY (pre.map (·.1)) (x,y) (w2.alloc (.cells #[.int .i64 x,.string ⟨y.toArray⟩] 103)) I aa
   have hle:=o.left
   have M:=i.left
   simp only [aq,ar,aJ] at M
   clear Y
   unfold kV jh at hy
   gi_wp2
   refine hR.mono ?_
   rintro e W3 (⟨rfl,ag,ak⟩ | ⟨rfl,N⟩)
   ·gi_wp2
    have q:=B.of_walks ak
    go_roundw
    case rel=>exact ⟨_,q,by rw [bm];exact ag⟩
    case measure =>
     have:=q.left
     simp only [aq,ar,aJ] at this
     omega
   ·gi_wp2
    refine aI (dF rfl _ _ _) rfl ?_
    exact ⟨⟨_,rfl⟩,.inr ⟨_,cL,N⟩⟩
end Go.Proofs.YtkkfmkhbdoeglabGreatDoor
namespace Go.Proofs.YtkkfmkhbdoeglabGreatDoor
open Go.RowKit Go.Shelf
attribute [local go_sem] Oper.semAt_some
def iu (l:List K):List Value:=l.flatMap fun k=>[.int .i64 k.1,.string ⟨k.2.toArray⟩]
theorem xF (l:List K) (k:K):iu (l++[k])=iu l++[.int .i64 k.1,.string ⟨k.2.toArray⟩]:=by
 simp [iu]
theorem Ho:(Tryz.prog.info? 103).map (fun i=>(i.zero,i.size,i.bytes))=some (some (.agg #[.int .i64 0,.string ⟨#[]⟩]),2,24):=by kernel_rfl
theorem cell_two_new (w:World) (x y:Value) (t:TypeId):∀ j u,[x,y][j]?=some u→(w.alloc (.cells #[x,y] t)).cell? ((⟨w.heap.size,0,none⟩:Addr).add j)=some u:=by
 intro j u b
 have:=ae (w.alloc (.cells #[x,y] t)) w.heap.size j _ _ _ (fR w (.cells #[x,y] t))
 match j,b with
 | 0,b=>simp at b;subst b;simp [Addr.add,this]
 | 1,b=>simp at b;subst b;simp [Addr.add,this]
 | j+2,b=>simp at b
theorem xx (F:Fence) (n:Nat) (hf:F.fn 200) (y:F.round=none) (hn:3≤n) (gf:Nat) (lb:Array Value) (O:F.fn gf) (eg:∀ args w,(callFunc gf args).run Tryz.prog w = .ok (.enter gf args) w)
  (I Sp:List K→Prop) (N:Nat) (hN:N≤1000000000) (w:World) (J:SeqStopsA F (n-1) Tryz.prog gf lb (fun k:K=>#[kV k]) I Sp N w) (_hSx:∀ xs,I xs→xs.length≤N) :
  CallsIn F n Tryz.prog 200 #[.slice none 0 0,.func (.func gf) #[] lb] w fun e W'=>∃ v xs,e = .returned v∧I xs∧W'.ownsRow w.heap.size 103 2 v xs.length (iu xs)∧Below w.heap.size w W':=by
 have h1:1≤n:=by omega
 obtain ⟨i0,hi,Q,R,S⟩:=dD Ho
 refine callsIn_of_wp_marks Tryz.func200 rfl hf ?_ y
 try simp only [Tryz.ntmps200,dC,ar,aJ,Nat.reduceAdd,Nat.reduceSub,bf,bu,bT,dG,aO,aX]
 gi_wp2
 have U:=Boxed.new w 220 (.slice none 0 0)
 have j:Below w.heap.size w (w.alloc (.cells #[.slice none 0 0] 220)):=(Below.refl _ w).alloc (af _) _
 have V:(w.alloc (.cells #[.slice none 0 0] 220)).heap.size=w.heap.size+1:=by simp
 obtain ⟨Z,B⟩:∃ Z,w.alloc (.cells #[.slice none 0 0] 220)=Z:=⟨_,rfl⟩
 rw [B] at U j V⊢
 clear B
 refine wpIn_rangeFunc_ownH y h1 (gf:=gf) (lb:=lb) rfl O eg J walksK_t walksK_b j (fun _=>rfl)
  (fun pre W=>(∃ v,Boxed W w.heap.size 220 v∧W.ownsRow w.heap.size 103 2 v pre.length (iu pre)∧True)∧Below w.heap.size w W)
  (fun _ _ _=>False)
  (OwnFrom.and (Own.from (holdsRow_own w.heap.size w.heap.size 220 103 2 (fun pre:List K=>pre.length) iu (fun _ _=>True)) _) (ownFrom_below (af _) (by omega)))
  (fun _ _ _ _ _ hs _ _=>hs)
  ⟨⟨_,U,World.ownsRow_nil _ _ _ _,cL⟩,j⟩
  (fun x M W=>∃ d,w.heap.size<d∧W.heap[d]?=some (.cells #[.int .i64 x.1,.string ⟨x.2.toArray⟩] 103 (0,0))∧M = {tmps:=#[.slice none 0 0,.func (.func gf) #[] lb,.pointer (some ⟨w.heap.size,0,none⟩),undef,.slice none 0 0,.pointer (some ⟨d,0,none⟩),.func (.func gf) #[] lb,.agg #[.int .i64 x.1,.string ⟨x.2.toArray⟩],undef,undef,undef,undef,undef],defers:=[]})
  (fun x M _ X Y row hs hg hr=>by
   obtain ⟨d,h1,h2,h3⟩:=hs
   exact ⟨d,h1,(hg.block d (fO h2) (fun e=>by obtain ⟨-,o,ho,hc⟩:=hr d e.symm;rw [h2] at ho;cases ho;cases hc)).trans h2,h3⟩)
  ?assign ?body ?done ?stop
 case assign =>
  rintro l pre x W K ⟨⟨v1,C,ak,-⟩,E⟩ hK
  unfold kV jh
  gi_wp2
  exact hK _ _ ((KeepsOthers.alloc _ _).from _) (KeepsWalks.alloc _ _) ⟨⟨v1,C.alloc _,ak.alloc _,cL⟩,E.alloc E.size _⟩ ⟨W.heap.size,C.lt,fR W _,rfl⟩
 case body =>
  rintro l pre ⟨kt,kb⟩ M W hl ⟨r,hr⟩ ⟨⟨v,s,b,-⟩,m⟩ ⟨d,a9,bX,rfl⟩ ba
  have hc:=s.cell
  have x0:=ae _ _ 0 _ _ _ bX
  have x1:=ae _ _ 1 _ _ _ bX
  have bb:=m.size
  have hmx:maxLen=9223372036854775807:=rfl
  gi_wp2_with (gi_at_builtin;refine wpListIn_append_own _ rfl _ _ 220 rfl w.heap.size 103 i0 (.agg #[.int .i64 0,.string ⟨#[]⟩]) 2 24 Tryz.underlying220 hi Q R S rfl (by decide) _ _ _ rfl (b.alloc _) ⟨W.heap.size,0,none⟩ 1 1 [.int .i64 kt,.string ⟨kb.toArray⟩] rfl rfl (cell_two_new _ _ _ _) (by simp [Value.oneCell']) (by omega) (by omega) (by simp;omega) ?_;intro v' w1 i u _;obtain ⟨g',cap',rfl⟩:=ownsRow_succ i;obtain ⟨G,am,ap,q,av⟩:=s.appended (by decide) b m.size (af _) i u;have bc:=G.cell;have be:=G.frozen)
  exact ⟨q.from _,⟨q.size,fun k o h hw=>q.same k o h (Obj.not_cells_of_walk hw)⟩,⟨_,am,by rw [xF];simpa using ap⟩,m.trans av⟩
 case done =>
  rintro D ys W hD hS ⟨⟨v,s,b,-⟩,m⟩ hK
  have hc:=s.cell
  gi_wp2
  refine ⟨by simp,.inl ⟨_,_,rfl,run_takeDeferred hK,?_⟩⟩
  exact ⟨_,results_tmp rfl _ _ _,v,ys,rfl,hS,ownsRow_putObj b _ hK rfl,m.trans (belowK_b (w:=w) (af _) W D _ _ (by omega) hK rfl rfl)⟩
 case stop =>
  rintro D c pre W _ _ h _
  exact h.elim
end Go.Proofs.YtkkfmkhbdoeglabGreatDoor
namespace Go.Proofs.YtkkfmkhbdoeglabGreatDoor
open Go.RowKit Go.Shelf Go.Sort
attribute [local go_sem] Oper.semAt_some
def tz (k:K):List Value:=[.int .i64 k.1,.string ⟨k.2.toArray⟩]
theorem pq (a b:K):ltOf oQ a b=oa a b:=by
 unfold ltOf oa
 unfold oQ po p8
 rcases dU a.1 b.1 with h | h | h
 ·simp [h]
 ·have h1:¬a.1<b.1:=by omega
  have h2:¬b.1<a.1:=by omega
  by_cases h3:a.2<b.2
  ·simp [h,h3]
  ·by_cases h4:b.2<a.2
   ·simp [h,h3,h4]
   ·simp [h,h3,h4]
 ·have h1:¬a.1<b.1:=by omega
  have h2:¬a.1=b.1:=by omega
  simp [h,h1,h2]
theorem Al:SWO (ltOf oQ) where
 irrefl x:=by rw [pq];exact rN x
 trans x y z h1 h2:=by rw [pq] at *;exact nG h1 h2
 ntrans x y z h1 h2:=by
  rw [pq] at *
  cases h:oa x z with
  | false=>rfl
  | true =>
   rcases vh y x with e | e | e
   ·rw [nG e h] at h2;cases h2
   ·subst e;rw [h] at h2;cases h2
   ·rw [e] at h1;cases h1
theorem ya (x y:K) (h1:ltOf oQ x y=false) (h2:ltOf oQ y x=false):x=y:=by
 rw [pq] at *
 rcases vh x y with e | e | e
 ·rw [e] at h1;cases h1
 ·exact e
 ·rw [e] at h2;cases h2
theorem lu (l:List K):(iu l).length=l.length*2:=by
 induction l with
 | nil=>rfl
 | cons k l ih=>simp [iu] at ih⊢;omega
theorem uo:∀ (l:List K) (t:Nat),t<l.length*2→(iu l)[t]?=some ((tz l.toArray[t / 2]!)[t%2]!)
 | [],t,h=>by simp at h
 | k::l,0,_=>by simp [iu,tz]
 | k::l,1,_=>by simp [iu,tz]
 | k::l,t+2,h=>by
  have ih:=uo l t (by simp at h;omega)
  have e:iu (k::l) = .int .i64 k.1 :: .string ⟨k.2.toArray⟩::iu l:=rfl
  rw [e,show (t+2) / 2=t / 2+1 by omega,show (t+2)%2=t%2 by omega]
  simp only [aY,ih]
  simp
theorem AB (l:List K) (t:Nat) (h:t<l.length*2):(iu l)[t]?=some (flatK tz 2 l.toArray)[t]!:=by
 rw [uo l t h,get_flatK tz 2 l.toArray t (by simpa using h)]
theorem uR {α:Type} [Inhabited α] (enc : α→List Value) (k:Nat) (w:World) (b off m:Nat) (d:Array α) (os:Array Obj) {i:Nat} (h1:i<w.heap.size) (h2:i≠b):(sortWorldK enc k w b off m d os).heap[i]?=w.heap[i]?:=by
 unfold sortWorldK putRowK putRow mapBlock grow Sort.ahead
 simp only
 rw [eQ (by simpa using h1)]
 simp [eM,dx h2]
theorem uQ {α:Type} [Inhabited α] (enc : α→List Value) (k:Nat) (w:World) (b off m base:Nat) (d:Array α) (os:Array Obj) (h:base≤b) (j:base≤w.heap.size):Below base w (sortWorldK enc k w b off m d os) :=
 ⟨rfl,rfl,rfl,size_sortWorldK_c enc k w b off m d os,fun i l=>uR enc k w b off m d os (by omega) (by omega)⟩
theorem xd {α:Type} [Inhabited α] (enc : α→List Value) (k:Nat) (w:World) (b off m:Nat) (d:Array α) (os:Array Obj) {cs:Array Value} {t:TypeId} {fz:Nat×Nat} (h:w.heap[b]?=some (.cells cs t fz)):∃ i,(sortWorldK enc k w b off m d os).heap[b]?=some (.cells i t fz):=by
 have h1:=fO h
 refine ⟨putCells id off (flatK enc k d) cs,?_⟩
 unfold sortWorldK putRowK putRow mapBlock grow Sort.ahead
 simp only
 rw [eQ (by simpa using h1)]
 simp [eM,h,onCells]
def lT (w:World) (v:Value) (l:List K):Prop:=fW w v 2 l.length (iu l)∧∀ g,v.ownBlock=some g→∃ cs fz,w.heap[g]?=some (.cells cs 103 fz)
def uF (l:List K):List K:=l.mergeSort fun x y => !(ltOf oQ) y x
theorem xc (l:List K):(uF l).Perm l:=List.mergeSort_perm _ _
theorem GI {l:List K} {S:List E} (hs:SortedE S) (i:l.Perm (S.map (·.1))):uF l=S.map (·.1):=by
 have h1:(uF l).Pairwise fun x y=>(!(ltOf oQ) y x)=true:=by
  refine List.pairwise_mergeSort (fun a b c h1 h2 => ?_) (fun a b => ?_) l
  ·simp only [eO] at *
   exact Al.ntrans _ _ _ h2 h1
  ·rw [pq,pq]
   cases h:oa a b with
   | true=>rw [lO h];rfl
   | false=>simp
 have h2:(S.map (·.1)).Pairwise fun x y=>(!(ltOf oQ) y x)=true:=by
  refine dB.2 (List.Pairwise.imp (fun {a b} h => ?_) hs)
  rw [pq,lO h]
  rfl
 refine List.Perm.eq_of_pairwise (fun a b _ _ ha d => ?_) h1 h2 ((xc l).trans i)
 simp only [eO] at ha d
 exact ya a b d ha
theorem zB (xs:List K) (v:Value) (base:Nat) (w:World) (G:w.ownsRow base 103 2 v xs.length (iu xs)) (l:base≤w.heap.size) (Q:xs.length≤1000000000) :
  Calls Tryz.prog 176 #[v,.func (.func 138) #[] #[]] w fun e w'=>e = .returned (.tuple #[])∧lT w' v (uF xs)∧Below base w w':=by
 obtain ⟨hl,⟨rfl,I⟩ | ⟨g,cap,cur,rfl,u,b,R,hc,N,C⟩⟩:=G
 ·obtain rfl:xs=[]:=bK I
  have h:=AnyF.slices_SortFunc_none Iu none 0 (.func (.func 138) #[] #[]) w
  refine Calls.mono (P:=Tryz.prog) h ?_
  rintro e w' ⟨rfl,rfl⟩
  exact ⟨rfl,⟨by have:=fW.nil w' none 2 0;simpa [uF,iu] using this,fun g u=>by simp [Value.ownBlock] at u⟩,Below.refl _ _⟩
 ·have d:=fO b
  have hH:HoldsK tz 2 w g 0 xs.toArray:=by
   intro j J
   have r:j<xs.length*2:=by simpa using J
   have hk:=AB xs j r
   have:cur.toList[j]?=some (flatK tz 2 xs.toArray)[j]!:=by
    rw [←hk,←C,bp r]
   rw [bG]
   exact ⟨by rw [ae w g j cur _ _ b,←Array.getElem?_toList,this];rfl,aj w g j _ _ b⟩
  have M:∀ args w,(callFunc 138 args).run Tryz.prog w = .ok (.enter 138 args) w:=enters_of Tryz.func138 (by kernel_rfl) rfl
  have B:CmpLays Tryz.prog 138 #[] tz 2 oQ g 0 xs.toArray.size w:=by
   intro m os S O x y
   exact yu x y _
  have h:=AnyQ.slices_SortFunc_total Iu 2 Tryz.isAgg103 Tryz.sizeOf103 tz (fun _=>rfl) (fun x v D=>by simp [tz] at D;rcases D with rfl | rfl <;> rfl) oQ Al 138 #[] g 0 cap xs.toArray w M B hH d (by simp;omega) ya
  rw [show xs.toArray.size=xs.length by simp] at h
  refine Calls.mono (P:=Tryz.prog) h ?_
  rintro e w' ⟨rfl,q,os,rfl⟩
  have s:=(xc xs).length_eq
  have E:=holdsK_sortWorldK_c tz 2 w g 0 xs.toArray (uF xs).toArray q os hH d (by simpa using s)
  refine ⟨rfl,⟨⟨by rw [lu],_,cap,by rw [s],by omega,fun i o=>⟨g,0,rfl,?_⟩⟩,fun U F=>by cases F;obtain ⟨cs,h⟩:=xd tz 2 w g 0 q (uF xs).toArray os b;exact ⟨cs,_,h⟩⟩,uQ tz 2 w g 0 q base _ os u l⟩
  rw [lu] at o
  have h3:=(E i (by simpa using o)).1
  have h4:=AB (uF xs) i o
  refine h3.trans ?_
  rw [ay (by rw [lu];exact o)] at h4
  exact h4.symm
theorem Am (gf:Nat) (lb:Array Value) (j:∀ args w,(callFunc gf args).run Tryz.prog w = .ok (.enter gf args) w)
  (d l:List K→Prop) (N:Nat) (q:N≤1000000000) (w:World) (b:∀ n,1≤n→SeqStopsA Fence.wide n Tryz.prog gf lb (fun k:K=>#[kV k]) d l N w) (i:∀ xs,d xs→xs.length≤N) :
  Calls Tryz.prog 175 #[.func (.func gf) #[] lb] w fun e W'=>∃ v xs,e = .returned v∧d xs∧W'.ownsRow w.heap.size 103 2 v xs.length (iu xs)∧Below w.heap.size w W':=by
 have r:=ab (callsIn_wide.1 (xx Fence.wide 3 cL rfl (af _) gf lb cL j d l N q w (b 2 (by omega)) i))
 clear b i j
 go_enter Tryz.func175,Tryz.ntmps175
 go_wp2_with fail
 refine r.out.mono ?_
 rintro e w1 ⟨v,xs,rfl,m,o,s⟩
 have u:=ab o
 have x:=ab m
 clear o m
 go_wp2
 go_ret
 exact ⟨v,xs,rfl,x.out,u.out,s⟩
theorem nY (d b:Nat) (S:List E) (w:World) (q:d<w.heap.size) (hm:w.cell? ⟨d,0,none⟩=some (.map (some b))) (m:TabAt w b S) (D:S.length≤1000000000) :
  Calls Tryz.prog 136 #[.func (.func 177) #[] #[.pointer (some ⟨d,0,none⟩)],.func (.func 138) #[] #[]] w fun e w' =>
   ∃ v,e = .returned v∧lT w' v (S.map (·.1))∧Below w.heap.size w w':=by
 have F:=ab (Am 177 #[.pointer (some ⟨d,0,none⟩)] (enters_of Tryz.func177 (by kernel_rfl) rfl)
  (fun xs=>xs.Perm (S.map (·.1))) (fun _=>True) S.length D w (fun n G=>CR Fence.wide n cL rfl G d b S w q hm m) (fun xs h=>by rw [h.length_eq,aG];exact af _))
 have r:=ab m.sorted
 clear m hm
 go_enter Tryz.func136,Tryz.ntmps136
 go_wp2_with fail
 refine F.out.mono ?_
 rintro e w1 ⟨v,xs,rfl,o,s,u⟩
 have x:xs.length=S.length:=by rw [o.length_eq,aG]
 have i:=GI r.out o
 have y:=u.size
 have j:=ab (zB xs v w.heap.size w1 s y (by omega))
 rw [i] at j
 clear s o x i
 go_wp2_with fail
 refine j.out.mono ?_
 rintro e w2 ⟨rfl,l,B⟩
 have C:=ab l
 clear l
 go_wp2
 go_ret
 exact ⟨v,rfl,C.out,u.trans B⟩
end Go.Proofs.YtkkfmkhbdoeglabGreatDoor
namespace Go.Proofs.YtkkfmkhbdoeglabGreatDoor
open Go.RowKit
section
variable {P:Program} {ops:Array Oper} {md:Region.Mode} {w:World} {nF:Nat}
theorem xj {F:Fence} (hd:F.depth=none) (d:∀ f,F.fn f) (hc:∀ f args w R,Calls P f args w R→CallsIn F (nF-1) P f args w R) (q:∀ (i:Nat) o,ops[i]?=some o→∀ a:Act,o.semAt F.round a.eval=execOp a.eval o)
  {i:Nat} {a:Act} {K:Act→Prop} {j:Act→World→Prop} {Q':Exit→Act→World→Prop} (h:∀ a,K a→j a w) (b:stOp P ops w i K a):wpOpIn F nF P ops Q' i j a w:=by
 unfold stOp at b
 unfold wpOpIn
 split
 ·exact h _ (by simpa [*] using b)
 ·rename_i o l
  simp only [l] at b
  split
  ·rename_i hw
   simp only [hw,dM] at b
   unfold Oper.still at b
   unfold Oper.wpIn
   refine ⟨fun f _=>d f,?_⟩
   rw [q i o l a]
   generalize (execOp a.eval o).run P w=r at b
   cases r with
   | ok x w' =>
    cases x <;> simp only [Oper.stillUpon] at b <;> simp only [Oper.uponIn]
    case enter f args =>
     obtain ⟨rfl,v,m,s⟩:=b
     refine ⟨fun h=>by simp [hd] at h,hc _ _ _ _ (m.mono fun e u ⟨he,hw⟩ => ?_)⟩
     subst he
     subst hw
     exact h _ s
    all_goals (obtain ⟨rfl,h2⟩:=b;exact h _ h2)
   | halt x w'=>simp only [Oper.stillUpon] at b
  ·rename_i hw
   simp only [hw] at b
   exact ⟨fun f _=>d f,h _ b⟩
theorem pY {F:Fence} (hd:F.depth=none) (b:∀ f,F.fn f) (hc:∀ f args w R,Calls P f args w R→CallsIn F (nF-1) P f args w R) (d:∀ (i:Nat) o,ops[i]?=some o→∀ a:Act,o.semAt F.round a.eval=execOp a.eval o)
  {n g:Nat} {L:Array Bool→Act→Prop} {Q':Exit→Act→World→Prop} (j:∀ listed a,L listed a→wpAnyIn F nF P md ops Q' g listed a w) :
  ∀ (f:Nat) (listed:Array Bool) (a:Act),wpAnyL P md ops w n L f listed a→wpAnyIn F nF P md ops Q' (f+g) listed a w
 | 0,listed,a,h=>by rw [bG];exact j _ _ h
 | f+1,listed,a,h=>by
  rw [show f+1+g=(f+g)+1 by omega]
  exact ⟨fun l=>absurd l h.1,fun i m=>xj hd b hc d (fun q r=>pY hd b hc d j f _ q r) (h.2 i m).2⟩
theorem qC {F:Fence} {Q':Exit→Act→World→Prop} : ∀ (l:List Oper) (k:Nat) (listed:Array Bool) (a:Act) (w:World),(∀ j,l[j]?=ops[k+j]?)→
  Region.seqB md ops l.length k listed=true→wpListIn F nF P ops Q' l a w→wpAnyIn F nF P md ops Q' l.length listed a w
 | [],_,_,_,_,_,b,h=>⟨by simpa [Region.seqB] using b,h⟩
 | o::l,k,listed,a,w,hl,b,h=>by
  have q:ops[k]?=some o:=by simpa using (hl 0).symm
  simp only [ar,Region.seqB,dO,dj] at b
  refine ⟨fun h1=>(by rw [b.1] at h1;cases h1),fun i d => ?_⟩
  rw [b.1] at d
  have m:i=k:=by simpa using d
  subst m
  have hw:wpOpIn F nF P ops Q' i (wpListIn F nF P ops Q' l) a w:=by unfold wpOpIn;simp only [q];exact h
  exact wpOpIn_mono (fun r w' s=>qC l (i+1) _ r w' (fun j=>by have:=hl (j+1);simpa [aW,Nat.add_comm 1 j] using this) b.2 s) hw
theorem o6 {F:Fence} (hd:F.depth=none) (u:∀ f,F.fn f) (hc:∀ f args w R,Calls P f args w R→CallsIn F (nF-1) P f args w R)
  {id:Nat} {Q:Exit→Act→World→Prop} {a:Act} {w:World} {l:List Oper} (n:Nat) (hm:P.follows .mixedOrders=true) (G:∀ (i:Nat) o,l.toArray[i]?=some o→∀ a:Act,o.semAt F.round a.eval=execOp a.eval o) (x:Region.lexTailB .any l.toArray n=true)
  (h:wpStill P l.toArray {w with drawn:=w.drawn+1} (fun m=>wpListIn F nF P l.toArray Q (l.drop n) m {w with drawn:=w.drawn+1}) (l.take n) a):(Code.region id l.toArray true).wpIn F nF P Q a w:=by
 simp only [Region.lexTailB,dO,dj] at x
 obtain ⟨⟨⟨⟨q,y⟩,hs⟩,B⟩,r⟩:=x
 have J:n<l.length:=by simpa using y
 have b:(l.take n).length=n:=by simp;omega
 have d:(l.drop n).length=l.toArray.size-n:=by simp
 have s:HeadInv .any l.toArray n (Array.replicate l.toArray.size false) :=
  ⟨by simp,fun j M _ hl=>(by rw [getD_replicate_false] at hl;cases hl),fun t _ I=>getD_in (by simpa using I) (getD_replicate_false _ _)⟩
 have H:=wpAnyL_lex (md := .any) (g:=l.toArray.size-n) q hs B y (l.take n) 0 _ a (fun j C=>by
  have D:j<n:=by rw [b] at C;exact C
  simp [D]) (by simpa using b) s (by rw [b];exact r) h
 refine wpIn_region_any hm ?_
 have:=pY (nF:=nF) (Q':=Q) (g:=l.toArray.size-n) hd u hc G (fun listed m E=>by
  have:=qC (nF:=nF) (md := .any) (F:=F) (Q':=Q) (l.drop n) n listed m {w with drawn:=w.drawn+1} (fun j=>by simp [dy]) (by rw [d];exact E.1) E.2
  rwa [d] at this) _ _ _ H
 rw [b,show n+(l.toArray.size-n)=l.toArray.size by omega] at this
 exact this
theorem pN {id:Nat} {Q:Exit→Act→World→Prop} {a:Act} {w:World} {l:List Oper} (n:Nat) (hm:P.follows .mixedOrders=true) (b:Region.lexTailB .any l.toArray n=true)
  (h:wpStill P l.toArray {w with drawn:=w.drawn+1} (fun d=>wpListIn Fence.wide nF P l.toArray Q (l.drop n) d {w with drawn:=w.drawn+1}) (l.take n) a):(Code.region id l.toArray true).wpIn Fence.wide nF P Q a w :=
 o6 rfl (fun _=>cL) (fun _ _ _ _ h=>callsIn_wide.2 h) n hm (fun _ _ _ _=>rfl) b h
end
end Go.Proofs.YtkkfmkhbdoeglabGreatDoor
namespace Go.Proofs.YtkkfmkhbdoeglabGreatDoor
open Go.RowKit Go.Shelf Go.Sort
attribute [local go_sem] Oper.semAt_some
theorem sG:∀ (l:List K) (i:Nat) (h:i<l.length),(iu l)[i*2]?=some (.int .i64 l[i].1)∧(iu l)[i*2+1]?=some (.string ⟨l[i].2.toArray⟩)
 | k::l,0,_=>⟨rfl,rfl⟩
 | k::l,i+1,h=>by
  have ih:=sG l i (by simpa using h)
  have e:iu (k::l) = .int .i64 k.1 :: .string ⟨k.2.toArray⟩::iu l:=rfl
  rw [e,show (i+1)*2=i*2+1+1 by omega,show i*2+1+1+1=(i*2+1)+1+1 by omega]
  simpa using ih
theorem lT.opened {w:World} {v:Value} {l:List K} (h:lT w v l) :
  ∃ a cap,v = .slice a l.length cap∧l.length≤cap∧∀ i (h:i<l.length),∃ b off,a=some ⟨b,off,none⟩∧w.cell? ⟨b,off+i*2,none⟩=some (.int .i64 l[i].1)∧w.cell? ⟨b,off+i*2+1,none⟩=some (.string ⟨l[i].2.toArray⟩):=by
 obtain ⟨⟨_,a,cap,rfl,hc,d⟩,-⟩:=h
 refine ⟨a,cap,rfl,hc,fun i m => ?_⟩
 have hl:=lu l
 obtain ⟨j,h1⟩:=sG l i m
 obtain ⟨b,off,rfl,c0⟩:=d (i*2) (by omega)
 obtain ⟨q,r,o,c1⟩:=d (i*2+1) (by omega)
 cases o
 rw [ay (by omega)] at j h1
 exact ⟨b,off,rfl,c0.trans j,(by rw [←aW] at c1;exact c1.trans h1)⟩
structure gU (x y z:Nat) (W W':World):Prop where
 size:W.heap.size≤W'.heap.size
 three:∀ k,k=x∨k=y∨k=z→W'.heap[k]?=W.heap[k]?
 keys:∀ (k:Nat) (cs:Array Value) (fz:Nat×Nat),W.heap[k]?=some (Obj.cells cs 103 fz)→W'.heap[k]?=some (Obj.cells cs 103 fz)
theorem gU.refl {x y z:Nat} (W:World):gU x y z W W:=⟨af _,fun _ _=>rfl,fun _ _ _ h=>h⟩
theorem gU.trans {x y z:Nat} {A B C:World} (h:gU x y z A B) (k:gU x y z B C):gU x y z A C :=
 ⟨aH h.size k.size,fun i b=>(k.three i b).trans (h.three i b),fun i cs fz b=>k.keys i cs fz (h.keys i cs fz b)⟩
theorem lT.kept {w w':World} {x y z:Nat} {v:Value} {l:List K} (h:lT w v l) (hk:gU x y z w w'):lT w' v l:=by
 obtain ⟨h1,h2⟩:=h
 refine ⟨h1.frame fun b d _ => ?_,fun g i => ?_⟩
 ·obtain ⟨cs,fz,h⟩:=h2 b d
  rw [h,hk.keys b cs fz h]
 ·obtain ⟨cs,fz,h⟩:=h2 g i
  exact ⟨cs,fz,hk.keys g cs fz h⟩
theorem gU.gD {x y z:Nat} {W W':World} (h:Below W.heap.size W W') (b:x<W.heap.size) (d:y<W.heap.size) (i:z<W.heap.size):gU x y z W W' :=
 ⟨h.size,fun k hk=>h.block k (by rcases hk with rfl | rfl | rfl <;> assumption),fun k cs fz hk=>(h.block k (fO hk)).trans hk⟩
theorem EntAt.kept {w w':World} {x q off r:Nat} {S:List E} (h:EntAt w q off r S) (hk:gU x q r w w'):EntAt w' q off r S :=
 ⟨(aU (a:=⟨q,off,none⟩) (hk.three q (.inr (.inl rfl)))).trans h.cell,h.tab.gr (hk.three r (.inr (.inr rfl)))⟩
theorem pV (s:ByteArray) (w:World):(Instr.field 226 (.agg #[.string s]) 0).run Tryz.prog w = .ok (.string s) w:=by kernel_rfl
theorem rL (r:Nat) (w:World):Calls Tryz.prog 137 #[.map (some r)] w fun e w' =>
  e = .returned (.func (.func 177) #[] #[.pointer (some ⟨w.heap.size,0,none⟩)])∧w'=w.alloc (.cells #[.map (some r)] 162):=by
 go_enter Tryz.func137,Tryz.ntmps137
 go_wp2
 go_ret
 exact ⟨rfl,rfl⟩
theorem nQ {β:Type} (f : β→E) (Y:List β) (n:Nat) (b q off r:Nat) (S:List E) (I:Y.map f=S) (w:World) (bb:b<w.heap.size) (hm:w.cell? ⟨b,0,none⟩=some (.pointer (some ⟨q,off,none⟩))) (he:EntAt w q off r S) (hS:S.length≤1000000000) :
  SeqStopsK Fence.wide n Tryz.prog 135 #[.pointer (some ⟨b,0,none⟩)] (fun y : β=>#[kV (f y).1,.string ⟨(f y).2.toArray⟩]) (gU b q r) (fun xs=>xs=Y) (fun pre=>pre <+: Y) S.length w:=by
 intro l J Jx W hW hJ b5 hY h0
 have V:Y.length=S.length:=by rw [←I,aG]
 have be:=ab I
 have X:=ab V
 clear I V
 have m:=he.below hW
 have Z:W.cell? ⟨b,0,none⟩=some (.pointer (some ⟨q,off,none⟩)):=(hW.cell (p:=⟨b,0,none⟩) bb).trans hm
 have b6:=hW.size
 have a6:b<W.heap.size:=by omega
 have b7:=m.lt
 have b8:=m.tab.lt
 have hc:=m.cell
 have HE:=ab m
 clear he hm m
 have aa:Below W.heap.size W (W.alloc (.cells #[.map (some r)] 162)):=(Below.refl _ W).alloc (af _) _
 have ag:=ab (nY W.heap.size r S (W.alloc (.cells #[.map (some r)] 162)) (by simp) (ae _ _ 0 _ _ _ (fR W (.cells #[.map (some r)] 162))) (HE.out.below aa).tab hS)
 refine callsIn_of_wp Tryz.func135 rfl cL ?_ rfl
 try simp only [Tryz.ntmps135,dC,ar,aJ,Nat.reduceAdd,Nat.reduceSub,bf,bu,bT,dG,aO,aX]
 gi_wp2_with (first
  | (refine ⟨cL,(fun h=>by simp [Fence.wide] at h),(callsIn_wide.2 (rL r W)).mono ?_⟩;rintro e w0 ⟨rfl,rfl⟩)
  | (refine ⟨cL,(fun h=>by simp [Fence.wide] at h),(callsIn_wide.2 ag.out).mono ?_⟩;rintro e w1 ⟨v,rfl,D,ak⟩;obtain ⟨sa,a7,rfl,-,-⟩:=D.opened;rw [aG] at *))
 have d:Below W.heap.size W w1:=aa.trans (ak.mono (by simp))
 have ca:=d.size
 have hmx:S.length≤a7:=by obtain ⟨a',c',e,h,-⟩:=D.opened;obtain ⟨-,-,rfl⟩:=Value.slice.inj e;simpa using h
 have bk:=ab D
 have al:=ab (HE.out.below d)
 have HJ:=ab hJ
 have bn:Hid (w1.cell? ⟨b,0,none⟩=some (.pointer (some ⟨q,off,none⟩))):=ab ((d.cell (p:=⟨b,0,none⟩) a6).trans Z)
 have am:J [] w1:=hJ [] W w1 none h0 ⟨d.os,d.tape,d.output,d.size,fun k hk _=>d.block k hk⟩ (fun r e=>by cases e)
 clear D hc Z ag ak
 gi_loopw [12] (fun i wr=>∃ k:Nat,k≤S.length∧i = .int .i64 (k:Int)∧gU b q r w1 wr∧J (Y.take k) wr) (fun i _=>S.length-(intOf i).toNat)
 case atStart=>exact ⟨0,aM _,rfl,gU.refl _,am⟩
 case round =>
  clear am
  obtain ⟨k,hk,rfl,o,M⟩:=hrel
  have cb:=o.size
  by_cases N:k<S.length
  ·have g1:(k:Int)<S.length:=by omega
   obtain ⟨ce,bX,e,-,hx⟩:=(bk.out.kept o).opened
   obtain ⟨rfl,-,rfl⟩:=Value.slice.inj e
   obtain ⟨kb,ko,rfl,c0,c1⟩:=hx k (by simpa using N)
   obtain ⟨x,F⟩:∃ x,x=S[k]:=⟨_,rfl⟩
   have O:k<Y.length:=by rw [X.out];exact N
   obtain ⟨y,Q⟩:∃ y,y=Y[k]:=⟨_,rfl⟩
   have ap:f y=x:=by rw [Q,F];have h1:=be.out;subst h1;rw [ff]
   rw [ff,←F] at c0 c1
   obtain ⟨⟨T,B⟩,VB⟩:=x
   simp only at c0 c1
   have R:=ab (al.out.kept o)
   have hg:jB (T,B) S=some VB:=(ow al.out.tab.sorted.keys _ _).2 (by rw [F];exact cD N)
   have av:Y.take (k+1)=Y.take k++[y]:=by rw [Q];exact (List.take_append_getElem O).symm
   have bt:=ab ap
   have ci:=ab O
   have aE:=ab av
   have U:wr.cell? ⟨b,0,none⟩=some (.pointer (some ⟨q,off,none⟩)):=(aU (a:=⟨b,0,none⟩) (o.three b (.inl rfl))).trans bn.out
   have a0:=R.out.cell
   have a1:=fU U
   have bv:=fU a0
   have cl:=fU c0
   have s:Below wr.heap.size wr (wr.alloc (.cells #[.int .i64 T,.string ⟨B.toArray⟩] 103)):=(Below.refl _ wr).alloc (af _) _
   have bw:=ab U
   have bx:=hg
   clear F av hg hx hk Q ap O
   have HG:=ab bx
   gi_wp2
   have C:=fR wr (.cells #[.int .i64 T,.string ⟨B.toArray⟩] 103)
   have bz:(wr.alloc (.cells #[.int .i64 T,.string ⟨B.toArray⟩] 103)).heap.size=wr.heap.size+1:=by simp
   have a2:Hid (J (Y.take k) (wr.alloc (.cells #[.int .i64 T,.string ⟨B.toArray⟩] 103))):=ab (HJ.out _ wr _ none M (dH wr _ none) (fun r e=>by cases e))
   generalize a3:wr.alloc (.cells #[.int .i64 T,.string ⟨B.toArray⟩] 103)=u
   rw [a3] at s C bz a2
   clear a3 c0 c1 U a0
   have a4:=ab (R.out.below s)
   have bD:u.cell? ⟨b,0,none⟩=some (.pointer (some ⟨q,off,none⟩)):=(s.cell (p:=⟨b,0,none⟩) a1).trans bw.out
   have bH:=a4.out.cell
   have bI:=pV ⟨VB.toArray⟩ u.drew
   have j:=TabAt.lookup (w:=u.drew) (a4.out.tab.gr rfl) (mt:=162) Tryz.underlying162 (s9 _) (T,B)
   rw [HG.out] at j
   simp only [kV,jh,kU,bR] at j
   have d0:=ae _ _ 0 _ _ _ C
   have d1:=ae _ _ 1 _ _ _ C
   refine pN 9 (by kernel_rfl) (by kernel_rfl) ?_
   simp only [bA,cd,fj,cy]
   repeat still_step
   refine wpStill_nil ?_
   have bL:J (Y.take k) u.drew:=HJ.out _ u _ none a2.out ⟨rfl,rfl,rfl,af _,fun _ _ _=>rfl⟩ (fun r e=>by cases e)
   obtain ⟨fn,tmps,assign,body,hy,hR⟩:=hY (Y.take k) y u.drew bL (by rw [az];omega)
   rw [bt.out] at hy
   simp only [kV,jh] at hy
   have bN:gU b q r w1 u.drew:=o.trans (gU.trans (gU.gD s a1 bv R.out.tab.lt) ⟨af _,fun _ _=>rfl,fun _ _ _ h=>h⟩)
   clear j d0 d1 bD bH bI
   have co:wr.heap.size≤u.drew.heap.size:=s.size
   gi_wp2
   refine ⟨(fun h=>by simp [Fence.wide] at h),hR.mono ?_⟩
   rintro e W3 (⟨rfl,bP,bS⟩ | ⟨rfl,a9⟩)
   ·gi_wp2
    have G:∃ k':Nat,k'≤S.length∧Value.int .i64 ((k:Int)+1) = .int .i64 (k':Int)∧gU b q r w1 W3∧J (Y.take k') W3:=⟨k+1,by omega,rfl,bN.trans bS,by rw [aE.out];exact bP⟩
    simp only [aG]
    refine ⟨?_,?_⟩
    ·first
      | exact G
      | ((repeat apply Exists.intro);exact ⟨G,rfl⟩)
    ·simp [intOf]
     omega
   ·gi_wp2
    refine aI (dF rfl _ _ _) rfl ?_
    exact ⟨⟨_,rfl⟩,.inr ⟨_,(by rw [←aE.out];exact List.take_prefix _ _),a9⟩⟩
  ·obtain rfl:k=S.length:=by omega
   have g1:¬(S.length:Int)<S.length:=by omega
   gi_wp2
   go_end0
   rw [←X.out,bC] at M
   exact ⟨⟨_,rfl⟩,.inl M⟩
theorem xC (n:Nat) (b q off r:Nat) (S:List E) (w:World) (d:b<w.heap.size) (hm:w.cell? ⟨b,0,none⟩=some (.pointer (some ⟨q,off,none⟩))) (he:EntAt w q off r S) (i:S.length≤1000000000) :
  SeqStopsK Fence.wide n Tryz.prog 135 #[.pointer (some ⟨b,0,none⟩)] (fun x:E=>#[kV x.1,.string ⟨x.2.toArray⟩]) (gU b q r) (fun xs=>xs=S) (fun pre=>pre <+: S) S.length w :=
 nQ id S n b q off r S (List.map_id S) w d hm he i
end Go.Proofs.YtkkfmkhbdoeglabGreatDoor
namespace Go.Proofs.YtkkfmkhbdoeglabGreatDoor
open Go.RowKit Go.Shelf Go.Sort
theorem xB (g:Nat) (cb:Array Value) (eg:∀ args w,(callFunc g args).run Tryz.prog w = .ok (.enter g args) w) (d q off r:Nat) (S:List E) (J Jx:List E→World→Prop) (hJ:∀ s A B,J s A→A.grownBy B none→J s B)
  (hG:∀ pre x W1,J pre W1→pre++[x] <+: S→Calls Tryz.prog g (#[kV x.1,.string ⟨x.2.toArray⟩]++cb) W1 fun e W'=>(e = .returned (.bool true)∧J (pre++[x]) W'∧gU d q r W1 W')∨(e = .returned (.bool false)∧Jx (pre++[x]) W'))
  (W:World) (a0:d<W.heap.size) (U:W.cell? ⟨d,0,none⟩=some (.pointer (some ⟨q,off,none⟩))) (m:EntAt W q off r S) (hS:S.length≤1000000000) (h0:J [] W) :
  Calls Tryz.prog 135 #[.func (.func g) #[] cb,.pointer (some ⟨d,0,none⟩)] W fun e W'=>(∃ v,e = .returned v)∧(J S W'∨∃ pre,pre <+: S∧Jx pre W'):=by
 have bP:=m.lt
 have bS:=m.tab.lt
 have hc:=m.cell
 have HE:=ab m
 clear m
 have V:Below W.heap.size W (W.alloc (.cells #[.map (some r)] 162)):=(Below.refl _ W).alloc (af _) _
 have X:=ab (nY W.heap.size r S (W.alloc (.cells #[.map (some r)] 162)) (by simp) (ae _ _ 0 _ _ _ (fR W (.cells #[.map (some r)] 162))) (HE.out.below V).tab hS)
 go_enter Tryz.func135,Tryz.ntmps135
 go_wp2_with (first
  | (go_at_call 137;refine (rL r W).mono ?_;rintro e w0 ⟨rfl,rfl⟩)
  | (go_at_call 136;refine X.out.mono ?_;rintro e w1 ⟨v,rfl,D,Y⟩;obtain ⟨sa,a1,rfl,-,-⟩:=D.opened;rw [aG] at *))
 have b:Below W.heap.size W w1:=V.trans (Y.mono (by simp))
 have bX:=b.size
 have hmx:S.length≤a1:=by obtain ⟨a',c',e,h,-⟩:=D.opened;obtain ⟨-,-,rfl⟩:=Value.slice.inj e;simpa using h
 have ba:=ab D
 have Z:=ab (HE.out.below b)
 have HJ:=ab hJ
 have bc:Hid (w1.cell? ⟨d,0,none⟩=some (.pointer (some ⟨q,off,none⟩))):=ab ((b.cell (p:=⟨d,0,none⟩) a0).trans U)
 have aa:J [] w1:=hJ [] W w1 h0 ⟨b.os,b.tape,b.output,b.size,fun k hk _=>b.block k hk⟩
 clear D hc U X Y
 go_loopw [12] (fun i wr=>∃ k:Nat,k≤S.length∧i = .int .i64 (k:Int)∧gU d q r w1 wr∧J (S.take k) wr) (fun i _=>S.length-(intOf i).toNat)
 case atStart=>exact ⟨0,aM _,rfl,gU.refl _,aa⟩
 case round =>
  clear aa
  obtain ⟨k,hk,rfl,o,I⟩:=hrel
  have b0:=o.size
  by_cases M:k<S.length
  ·have g1:(k:Int)<S.length:=by omega
   obtain ⟨b1,bH,e,-,hx⟩:=(ba.out.kept o).opened
   obtain ⟨rfl,-,rfl⟩:=Value.slice.inj e
   obtain ⟨kb,ko,rfl,c0,c1⟩:=hx k (by simpa using M)
   obtain ⟨x,F⟩:∃ x,x=S[k]:=⟨_,rfl⟩
   rw [ff,←F] at c0 c1
   obtain ⟨⟨T,j⟩,R⟩:=x
   simp only at c0 c1
   have N:=ab (Z.out.kept o)
   have hg:jB (T,j) S=some R:=(ow Z.out.tab.sorted.keys _ _).2 (by rw [F];exact cD M)
   have ag:S.take (k+1)=S.take k++[((T,j),R)]:=by rw [F];exact (List.take_append_getElem M).symm
   have O:=ab ag
   have Q:wr.cell? ⟨d,0,none⟩=some (.pointer (some ⟨q,off,none⟩)):=(aU (a:=⟨d,0,none⟩) (o.three d (.inl rfl))).trans bc.out
   have ak:=N.out.cell
   have al:=fU Q
   have bk:=fU ak
   have b2:=fU c0
   have u:Below wr.heap.size wr (wr.alloc (.cells #[.int .i64 T,.string ⟨j.toArray⟩] 103)):=(Below.refl _ wr).alloc (af _) _
   have bl:=ab Q
   have bn:=hg
   clear F ag hg hx hk
   have HG:=ab bn
   go_wp2
   have C:=fR wr (.cells #[.int .i64 T,.string ⟨j.toArray⟩] 103)
   have bo:(wr.alloc (.cells #[.int .i64 T,.string ⟨j.toArray⟩] 103)).heap.size=wr.heap.size+1:=by simp
   have am:Hid (J (S.take k) (wr.alloc (.cells #[.int .i64 T,.string ⟨j.toArray⟩] 103))):=ab (HJ.out _ wr _ I (dH wr _ none))
   generalize ap:wr.alloc (.cells #[.int .i64 T,.string ⟨j.toArray⟩] 103)=y
   rw [ap] at u C bo am
   clear ap c0 c1 Q ak
   have av:=ab (N.out.below u)
   have br:y.cell? ⟨d,0,none⟩=some (.pointer (some ⟨q,off,none⟩)):=(u.cell (p:=⟨d,0,none⟩) al).trans bl.out
   have bs:=av.out.cell
   have bt:=pV ⟨R.toArray⟩ y.drew
   have l:=TabAt.lookup (w:=y.drew) (av.out.tab.gr rfl) (mt:=162) Tryz.underlying162 (s9 _) (T,j)
   rw [HG.out] at l
   simp only [kV,jh,kU,bR] at l
   have d0:=ae _ _ 0 _ _ _ C
   have d1:=ae _ _ 1 _ _ _ C
   refine wp_region_still_tail 9 (by kernel_rfl) (by kernel_rfl) ?_
   simp only [bA,cd,fj,cy]
   repeat still_step
   refine wpStill_nil ?_
   have bv:J (S.take k) y.drew:=HJ.out _ y _ am.out ⟨rfl,rfl,rfl,af _,fun _ _ _=>rfl⟩
   have hR:=hG (S.take k) ((T,j),R) y.drew bv (by rw [←O.out];exact List.take_prefix _ _)
   simp only [kV,jh] at hR
   have HR:=ab hR
   clear hR
   have bw:gU d q r w1 y.drew:=o.trans (gU.trans (gU.gD u al bk N.out.tab.lt) ⟨af _,fun _ _=>rfl,fun _ _ _ h=>h⟩)
   clear l d0 d1 br bs bt
   have b3:wr.heap.size≤y.drew.heap.size:=u.size
   go_wp2
   refine HR.out.mono ?_
   rintro e W3 (⟨rfl,bz,bD⟩ | ⟨rfl,a3⟩)
   ·go_wp2
    have G:∃ k':Nat,k'≤S.length∧Value.int .i64 ((k:Int)+1) = .int .i64 (k':Int)∧gU d q r w1 W3∧J (S.take k') W3:=⟨k+1,by omega,rfl,bw.trans bD,by rw [O.out];exact bz⟩
    simp only [aG]
    refine ⟨?_,?_⟩
    ·first
      | exact G
      | ((repeat apply Exists.intro);exact ⟨G,rfl⟩)
    ·simp [intOf]
     omega
   ·go_wp2
    refine aI (dF rfl _ _ _) rfl ?_
    exact ⟨⟨_,rfl⟩,.inr ⟨_,(by rw [←O.out];exact List.take_prefix _ _),a3⟩⟩
  ·obtain rfl:k=S.length:=by omega
   have g1:¬(S.length:Int)<S.length:=by omega
   go_wp2
   go_end0
   rw [bC] at I
   exact ⟨⟨_,rfl⟩,.inl I⟩
end Go.Proofs.YtkkfmkhbdoeglabGreatDoor
