/- A part of what is proved here: lemmas and contracts of single functions. No condition but those that each names. -/
import Derived.Test.YtkkfmkhbdoeglaaGreatDoorG00
import Derived.Test.YtkkfmkhbdoeglaaGreatDoorG37
import Derived.Test.YtkkfmkhbdoeglaaGreatDoorG43
namespace Go.Proofs.YtkkfmkhbdoeglaaGreatDoor
open Go.RowKit Go.Shelf
structure nt (w:World) (K:Nat→Prop) (X:Nat) (H:fx) (P:Option PAg):Prop where
 host:∃ M,HostX w M X H P∧∀ k,M k→¬K k
 sh:ShapesVar w
 er:ErrVar w
 lo:∀ k,k<2→K k
 lt:∀ k,K k→k<w.heap.size
abbrev mJ (K:Nat→Prop) (w w':World):Prop:=Ext (fun k=>¬K k) w w'
theorem nt.below {w w':World} {K:Nat→Prop} {X:Nat} {H:fx} {P:Option PAg} (h:nt w K X H P) (b:Below w.heap.size w w'):nt w' K X H P:=by
 obtain ⟨⟨M,h1,h2⟩,h3,h4,h5,h6⟩:=h
 exact ⟨⟨M,h1.below b,h2⟩,h3.new b,h4.new b,h5,fun k hk=>ay (h6 k hk) b.size⟩
theorem nt.two {w:World} {K:Nat→Prop} {X:Nat} {H:fx} {P:Option PAg} (h:nt w K X H P) {M:Nat→Prop} (b:∀ k,M k→¬K k):∀ k,M k→2≤k:=fun k hk=>Nat.not_lt.1 fun e=>b k hk (h.lo k e)
theorem nt.nE {w w':World} {K:Nat→Prop} {X:Nat} {M:Nat→Prop} {H H':fx} {P P':Option PAg} (h:nt w K X H P) (b:∀ k,M k→¬K k) (d:iZ w M X H' P' w'):nt w' K X H' P'∧mJ K w w':=by
 obtain ⟨i,g1,g2,g3⟩:=d
 have j:mJ K w w':=g3.mono b
 have h2:=h.two b
 exact ⟨⟨⟨i,g1,fun k hk=>(g2 k hk).elim (b k) fun e hK=>dw _ (ay (h.lt k hK) e)⟩,h.sh.ext g3 h2,h.er.ext g3 h2,h.lo,fun k hk=>ay (h.lt k hk) g3.size⟩,j⟩
theorem nt.other {w w':World} {K D:Nat→Prop} {X:Nat} {H:fx} {P:Option PAg} (h:nt w K X H P) (b:Ext D w w') (d:∀ k,D k→K k) (h2:∀ k,D k→2≤k):nt w' K X H P:=by
 obtain ⟨⟨M,h1,h3⟩,h4,h5,h6,h7⟩:=h
 exact ⟨⟨M,h1.frame b fun k hk e=>h3 k hk (d k e),h3⟩,h4.ext b h2,h5.ext b h2,h6,fun k hk=>ay (h7 k hk) b.size⟩
theorem Cx.lt {w:World} {M:Nat→Prop} {a h:Nat} {H:fx} {P:PAg} (hm:Cx w M a h H P):Cx w (fun k=>M k∧k<w.heap.size) a h H P:=by
 obtain ⟨F,G,O,x,h1,h2⟩:=hm
 exact ⟨F,G,O,x,h1,fun k hk=>⟨h2 k hk,hk.elim (h1.host.lt k) fun hk=>hk.elim (h1.ag.glt k) (h1.ag.olt k)⟩⟩
theorem HostX.bound {w:World} {M:Nat→Prop} {X:Nat} {H:fx} {P:Option PAg} (b:HostX w M X H P):HostX w (fun k=>M k∧k<w.heap.size) X H P:=by
 obtain ⟨h,d,h1,h2,h3⟩:=b
 refine ⟨h,d,h1,⟨h2,fw h1⟩,?_⟩
 cases P with
 | none =>
  obtain ⟨h4,F,h5,h6⟩:=h3
  exact ⟨h4,F,h5,fun k hk=>⟨⟨(h6 k hk).1,h5.lt k hk⟩,(h6 k hk).2⟩⟩
 | some p =>
  obtain ⟨a,i,h4,h5,h6⟩:=h3
  exact ⟨a,_,h4,h5.lt,fun k hk=>⟨⟨(h6 k hk.1).1,hk.2⟩,(h6 k hk.1).2⟩⟩
theorem nt.xx {w w':World} {K:Nat→Prop} {X:Nat} {H:fx} {P:Option PAg} (h:nt w K X H P) (b:Below w.heap.size w w') (D:Nat→Prop) (d:∀ k,D k→w.heap.size≤k∧k<w'.heap.size):nt w' (fun k=>K k∨D k) X H P:=by
 obtain ⟨⟨M,h1,h2⟩,h3,h4,h5,h6⟩:=h
 exact ⟨⟨_,h1.bound.below b,fun k hk e=>e.elim (h2 k hk.1) fun e=>by have:=(d k e).1;have:=hk.2;omega⟩,h3.new b,h4.new b,fun k hk => .inl (h5 k hk),fun k hk=>hk.elim (fun hk=>ay (h6 k hk) b.size) fun hk=>(d k hk).2⟩
theorem nt.new {w w':World} {M:Nat→Prop} {X:Nat} {H:fx} {P:Option PAg} (j:HostX w' M X H P) (l:∀ k,M k→w.heap.size≤k) (d:Below w.heap.size w w') (b:ShapesVar w) (i:ErrVar w):nt w' (fun k=>k<w.heap.size) X H P :=
 ⟨⟨M,j,fun k hk e=>by have:=l k hk;omega⟩,b.new d,i.new d,fun k hk=>ay hk b.two,fun k hk=>ay hk d.size⟩
theorem mJ.below {K:Nat→Prop} {w w':World} {b:Nat} (h:mJ K w w') (d:b≤w.heap.size) (hK:∀ k,k<b→K k):Below b w w':=Ext.below h d fun k hk e=>e (hK k hk)
theorem mJ.at {K:Nat→Prop} {w w':World} (h:mJ K w w') {b:Nat} {o:Obj} (hK:K b) (d:w.heap[b]?=some o):w'.heap[b]?=some o:=Ext.at h (fun e=>e hK) d
variable (K:Nat→Prop) (X:Nat) (H:fx) (P:Option PAg) (p:PAg) (w:World)
theorem FB (h:nt w K X H P):Calls Tryz.prog 41 #[.pointer (some ⟨X,0,none⟩)] w fun e w'=>e = .returned (.bool P.isSome)∧w'=w:=by
 obtain ⟨⟨M,h1,-⟩,-⟩:=h
 exact Fk M X H P w h1
theorem lZ (h:nt w K X H (some p)):Calls Tryz.prog 15 #[.pointer (some ⟨X,0,none⟩)] w fun e w'=>e = .returned (.int .u64 (p.a.V:Nat))∧w'=w:=by
 obtain ⟨⟨M,h1,-⟩,-⟩:=h
 exact xC M X H p w h1
theorem CM (h:nt w K X H (some p)) (b:p.a.Fit):Calls Tryz.prog 17 #[.pointer (some ⟨X,0,none⟩)] w fun e w'=>e = .returned (.tuple #[])∧nt w' K X H (some {p with a:=p.a.tick})∧mJ K w w':=by
 obtain ⟨M,h1,h2⟩:=h.host
 refine (CZ M X H p w h1 b).mono ?_
 rintro e w' ⟨h3,h4⟩
 exact ⟨h3,h.nE h2 h4⟩
theorem pY (h:nt w K X H (some p)) (b:p.a.Fit):Calls Tryz.prog 18 #[.pointer (some ⟨X,0,none⟩)] w fun e w'=>e = .returned (tG p.a.next.2)∧nt w' K X H (some {p with a:=p.a.next.1})∧mJ K w w':=by
 obtain ⟨M,h1,h2⟩:=h.host
 refine (CW M X H p w h1 b).mono ?_
 rintro e w' ⟨h3,h4⟩
 exact ⟨h3,h.nE h2 h4⟩
theorem nZ {n B:Nat} {l:List Int} (frame:List UInt8) (h:nt w K X H (some p)) (b:za n l B H p) (hl:frame.length≤1000000):Calls Tryz.prog 12 #[.pointer (some ⟨X,0,none⟩),.string ⟨frame.toArray⟩] w fun e w'=>e = .returned (.tuple #[])∧nt w' K X (iO H p frame).1 (some (iO H p frame).2)∧mJ K w w':=by
 obtain ⟨M,h1,h2⟩:=h.host
 refine (xf n B X l M H p frame w h1 b hl h.sh h.er (h.two h2)).mono ?_
 rintro e w' ⟨h3,h4⟩
 exact ⟨h3,h.nE h2 h4⟩
theorem ke (h:nt w K X H (some p)) (hd:∀ f,p.a.deg=some f→1≤f.1∧f.1≤14∧p.sec≤100000):Calls Tryz.prog 13 #[.pointer (some ⟨X,0,none⟩)] w fun e w'=>e = .returned (lU (mS p).1 (mS p).2.1 (mS p).2.2)∧Below w.heap.size w w':=by
 obtain ⟨M,h1,h2⟩:=h.host
 exact vg M X H p w h1 hd h.er
theorem q5 (h:nt w K X H (some p)) (b:p.a.T.length≤1000000000):Calls Tryz.prog 16 #[.pointer (some ⟨X,0,none⟩)] w fun e w'=>∃ v,e = .returned (.tuple #[v,.bool true])∧iB w' v p.a.T∧(∀ k,v.ownBlock=some k→w.heap.size≤k)∧Below w.heap.size w w':=by
 obtain ⟨M,h1,h2⟩:=h.host
 exact xv M X H p w h1 b
theorem C8 (n:Int) (h:nt w K X H P):Calls Tryz.prog 8 #[.pointer (some ⟨X,0,none⟩),.int .i64 n] w fun e w'=>e = .returned (.tuple #[])∧nt w' K X {H with fail:=max n (-1)} P∧mJ K w w':=by
 obtain ⟨M,h1,h2⟩:=h.host
 refine (Dp M X H P n w h1).mono ?_
 rintro e w' ⟨h3,h4,-⟩
 exact ⟨h3,h.nE h2 h4⟩
def Gn (w:World) (K:Nat→Prop) (X:Nat) (R:fx×(PAg⊕(Nat×Nat×Nat))) (e:Ending) (w':World):Prop:=(match R with
 | (H',.inr (k,at',s))=>e = .returned (lU k at' s)∧nt w' K X H' none
 | (H',.inl p)=>e = .returned (lU 0 0 0)∧nt w' K X H' (some p))∧mJ K w w'
theorem xm {n B:Nat} {l:List Int} (mask cut fail:Int) (h:nt w K X H P) (b:Fine n l B H) (d:B≤800000000) (i:oD n l (H.again mask cut fail).seen) (hm : -9223372036854775808≤mask∧mask≤9223372036854775807) (hc:cut≤9223372036854775807) (j:fail≤9223372036854775807) :
  Calls Tryz.prog 21 #[.pointer (some ⟨X,0,none⟩),.int .i64 mask,.int .i64 cut,.int .i64 fail] w (Gn w K X (gO (H.again mask cut fail))):=by
 obtain ⟨M,h1,h2⟩:=h.host
 refine (xS n B X l M H P mask cut fail w h1 b d i hm hc j h.sh h.er (h.two h2)).mono ?_
 intro e w' h3
 generalize gO (H.again mask cut fail)=R at h3⊢
 obtain ⟨H',r⟩:=R
 cases r with
 | inl q=>exact ⟨⟨h3.1,(h.nE h2 h3.2).1⟩,(h.nE h2 h3.2).2⟩
 | inr y =>
  obtain ⟨k,a,s⟩:=y
  exact ⟨⟨h3.1,(h.nE h2 h3.2).1⟩,(h.nE h2 h3.2).2⟩
end Go.Proofs.YtkkfmkhbdoeglaaGreatDoor
namespace Go.Proofs.YtkkfmkhbdoeglaaGreatDoor
theorem qh:∀ (l:List (List UInt8)) (H:fx) (n f:Nat),(fZ l H n).2=some f→f≤n+l.length+1
 | [],H,n,f,h=>by cases h
 | s::l,H,n,f,h=>by
  unfold fZ at h
  have h1:∀ g,(H.write n s).2=some g→g=n+2:=fun g b=>by
   unfold fx.write at b
   split at b
   ·cases b;rfl
   ·cases b
  generalize H.write n s=q at h h1
  obtain ⟨H1,r⟩:=q
  cases r with
  | some g =>
   obtain rfl:g=f:=by simpa using h
   have:=h1 g rfl
   rw [ar]
   omega
  | none =>
   have:=qh l H1 (n+1) f h
   rw [ar]
   omega
theorem pt {H:fx} {g:LogS} {at' f:Nat} {data:List UInt8} (h:(fC H g at' data).2=some f):f≤at'+partsOf data.length+1:=by
 unfold fC at h
 have h1:=qh (fR (g.stamp+1) data) H at'
 rw [iC] at h1
 generalize fZ (fR (g.stamp+1) data) H at'=q at h h1
 obtain ⟨H1,r⟩:=q
 cases r with
 | some k =>
  obtain rfl:k=f:=by simpa using h
  exact h1 k rfl
 | none =>
  simp only at h
  unfold fx.flush at h
  split at h
  ·cases h;omega
  ·split at h <;> cases h
theorem th {H:fx} {g:LogS} {v f:Nat} {T:List E} (h:(fI H g v T).2.2=some f):f≤placeOf H.seen.length+partsOf (ic v T).length+1:=by
 unfold fI at h
 have h1:∀ f,(fC H g ((1-g.slot)*placeOf H.seen.length) (ic v T)).2=some f→f≤(1-g.slot)*placeOf H.seen.length+partsOf (ic v T).length+1:=fun f=>pt
 have h2:(1-g.slot)*placeOf H.seen.length≤placeOf H.seen.length:=by
  rcases (show 1-g.slot=0∨1-g.slot=1 by omega) with e | e <;> rw [e] <;> omega
 generalize fC H g ((1-g.slot)*placeOf H.seen.length) (ic v T)=q at h h1
 obtain ⟨H1,r⟩:=q
 cases r with
 | some k =>
  obtain rfl:k=f:=by simpa [Ag] using h
  have:=h1 k rfl
  omega
 | none=>cases h
theorem tE {H:fx} {g:LogS} {f:Nat} {b:List UInt8} (h:(gj H g b).2.2=some f):f≤g.next+partsOf b.length+1:=by
 unfold gj at h
 have h1:∀ f,(fC H g g.next b).2=some f→f≤g.next+partsOf b.length+1:=fun f=>pt
 generalize fC H g g.next b=q at h h1
 obtain ⟨H1,r⟩:=q
 cases r with
 | some k =>
  obtain rfl:k=f:=by simpa [pd] using h
  exact h1 k rfl
 | none=>cases h
theorem Cm {n:Nat} {l:List Int} {B:Nat} {H:fx} {P:PAg} {tk:gS} (i:Fine n l B H) (hu:UpAg n l H P) (x:uw P tk) (b:P.a.Fit) (y:tk.V<18446744073709551615) :
  (jB H P tk).2.a.Fit∧∀ f,(jB H P tk).2.a.deg=some f→1≤f.1∧f.1≤14∧(jB H P tk).2.sec≤100000:=by
 have m:∀ (a:AgA) (f:Nat×Nat),(a.stops f).deg=some f:=fun a f=>(iS {a with deg:=some f} 18 [UInt8.ofNat f.1]).1
 unfold jB
 cases hl:gZ (tk.T P.a.T) H.dp.room H.seen.length with
 | some f =>
  simp only
  refine ⟨b.stops f,fun g d => ?_⟩
  rw [m] at d
  cases d
  unfold gZ at hl
  split at hl
  ·cases hl;exact ⟨by show 1≤10;omega,by show 10≤14;omega,by show 0≤_;omega⟩
  ·split at hl
   ·cases hl;exact ⟨by show 1≤11;omega,by show 11≤14;omega,by show 0≤_;omega⟩
   ·cases hl
 | none =>
  simp only
  rw [i.dp.room,i.len] at hl
  obtain ⟨s,-⟩:=x.tab hu hl
  have u:=i.ok.n
  rw [i.len] at u
  have C:=iT u.1 u.2
  have o:∀ (v:Nat) (T:List E),sizeS T≤16*(n-8)→partsOf (ic v T).length≤placeOf n:=fun v T h=>lN (by rw [nQ];omega)
  have key:∀ f,(tk.log H P).2.2=some f→f≤100000:=by
   intro f h
   cases tk with
   | state v T =>
    have h1:=th h
    rw [i.len] at h1
    have:=o v T s.size
    omega
   | delta v os =>
    have j:(gF H P.lg (iG v os) P.a.V P.a.T).2.2=some f:=h
    have hlen:(iG v os).length≤700:=x.2.2.2.2.1
    have D:partsOf (iG v os).length≤14:=by unfold partsOf;omega
    have F:=hu.disk.next
    unfold gF at j
    split at j
    ·have h1:∀ f,(fI H P.lg P.a.V P.a.T).2.2=some f→f≤placeOf H.seen.length+partsOf (ic P.a.V P.a.T).length+1:=fun f=>th
     have h2:(fI H P.lg P.a.V P.a.T).2.2=none→(fI H P.lg P.a.V P.a.T).2.1.next=2*placeOf H.seen.length:=by
      unfold fI
      generalize fC H P.lg ((1-P.lg.slot)*placeOf H.seen.length) (ic P.a.V P.a.T)=q
      obtain ⟨H1,r⟩:=q
      cases r with
      | some f=>intro e;cases e
      | none=>intro _;rfl
     have h3:=o P.a.V P.a.T hu.tab.size
     rw [i.len] at h1 h2
     generalize fI H P.lg P.a.V P.a.T=q at j h1 h2
     obtain ⟨H1,g1,r⟩:=q
     cases r with
     | some k =>
      obtain rfl:k=f:=by simpa [EL] using j
      have:=h1 k rfl
      omega
     | none =>
      have h4:=tE (show (gj H1 g1 (iG v os)).2.2=some f from j)
      have h5:g1.next=2*placeOf n:=h2 rfl
      omega
    ·have:=tE j
     omega
  generalize tk.log H P=q at key
  obtain ⟨H1,g1,r⟩:=q
  cases r with
  | some f =>
   refine ⟨b.stops _,fun g d => ?_⟩
   rw [show (sS P tk (H1,g1,some f)).2.a=P.a.stops (12,0) from rfl,m] at d
   cases d
   exact ⟨by show 1≤12;omega,by show 12≤14;omega,key f rfl⟩
  | none =>
   refine ⟨AgA.Fit.lu ⟨y,b.out,b.olen,b.com⟩,fun g d => ?_⟩
   have h1:(AgA.lu {P.a with V:=tk.V,T:=tk.T P.a.T}).deg=P.a.deg:=(iS {P.a with V:=tk.V,T:=tk.T P.a.T} 17 (j4 tk.V)).1
   have h2:(sS P tk (H1,g1,none)).2.a=AgA.lu {P.a with V:=tk.V,T:=tk.T P.a.T} := rfl
   rw [h2,h1,hu.deg] at d
   cases d
structure MachSt (n:Nat) (l:List Int) (s B:Nat) (H:fx) (P:Option PAg) (a:AgA) (maybe:List (Nat×List E)) (ever:List E) (armed:Bool):Prop where
 inv:WInv n l s H P a maybe ever armed
 fine:Fine n l B H
 fit:∀ p,P=some p→p.a.Fit
 sec:∀ p f,P=some p→p.a.deg=some f→1≤f.1∧f.1≤14∧p.sec≤100000
theorem MachSt.recv {n:Nat} {l:List Int} {s B:Nat} {H:fx} {p:PAg} {a:AgA} {maybe:List (Nat×List E)} {ever:List E} {armed:Bool} (h:MachSt n l s B H (some p) a maybe ever armed) (hd:H.dp.dead=false) (frame:List UInt8) {s':Nat} {P':Option PAg} {x:AgA} {b:List (Nat×List E)} {ever':List E} {d:Bool} (y:P'=some (iO H p frame).2) (hw:WInv n l s' (iO H p frame).1 P' x b ever' d):MachSt n l s' (B+1000) (iO H p frame).1 P' x b ever' d:=by
 subst y
 refine ⟨hw,h.fine.recv h.inv hd frame,?_,?_⟩
 all_goals
  obtain ⟨g1,g2,g3,g5,g6⟩:=h.inv.up p rfl hd
  have j:=h.inv.tabs _ h.inv.self
  have i:=(h.fit p rfl).taken frame
  have m:∀ f,p.a.deg=some f→1≤f.1∧f.1≤14∧p.sec≤100000:=fun f=>h.sec p f rfl
  have key:(iO H p frame).2.a.Fit∧∀ f,(iO H p frame).2.a.deg=some f→1≤f.1∧f.1≤14∧(iO H p frame).2.sec≤100000:=by
   unfold iO
   rw [g1] at i m⊢
   cases o:a.taken frame with
   | mk a1 r =>
    rw [o] at i
    cases r with
    | none =>
     refine ⟨i,fun f C => ?_⟩
     obtain ⟨-,-,h3⟩:=uX o
     exact m f (by rw [←h3];exact C)
    | some tk =>
     obtain ⟨t1,t2,t3,t4,t5,t6⟩:=oJ o j.sorted j.good p.sec p.lg
     obtain ⟨u,u2,u3⟩:=g5 t1
     have u1:=u.disk
     rw [g1,←t2,←t3] at u1
     have ut:=u.tab
     rw [g1,←t2,←t3] at ut
     refine Cm (P := {p with a:=a1}) h.fine ⟨u1,by rw [t3];exact g3,u.room,ut,t4.trans t1⟩ t6 i ?_
     cases tk with
     | delta v os=>exact jH t6.2.1
     | state v T=>exact jH t6.2.1
 ·intro q hq
  cases hq
  exact key.1
 ·intro q f hq
  cases hq
  exact key.2 f
def gD (d:DpS):Prop:=d.left = -1∧d.dead=false
theorem gD.stop {d:DpS} (h:gD d):gD d.stop:=by
 have:d.stop=d:=by
  obtain ⟨l,b,r,S,g⟩:=d
  obtain ⟨h1,h2⟩:=h
  simp only at h1 h2
  subst h1 h2
  rfl
 rw [this]
 exact h
theorem gD.run:∀ (os:List qD) {d:DpS},gD d→gD (d.run os)
 | [],_,h=>h
 | o::os,d,h=>by
  refine gD.run os (d:=d.step o) ?_
  have hs:=h.stop
  obtain ⟨k,v⟩:=o
  cases v with
  | none =>
   unfold DpS.step DpS.drop
   simp only
   split <;> exact hs
  | some v =>
   unfold DpS.step DpS.put
   simp only
   split
   ·exact hs
   ·split <;> exact hs
theorem gD.write {H:fx} (h:gD H.dp) (n:Nat) (s:List UInt8):gD (H.write n s).1.dp:=by
 unfold fx.write
 split
 ·exact h
 ·exact h.stop
theorem gD.writes:∀ (ps:List (List UInt8)) (H:fx) (n:Nat),gD H.dp→gD (fZ ps H n).1.dp
 | [],_,_,h=>h
 | s::ps,H,n,h=>by
  unfold fZ
  have h1:=h.write n s
  generalize H.write n s=q at h1⊢
  obtain ⟨H1,r⟩:=q
  cases r with
  | some f=>exact h1
  | none=>exact gD.writes ps H1 (n+1) h1
theorem gD.flush {H:fx} (h:gD H.dp):gD H.flush.1.dp:=by
 unfold fx.flush
 split
 ·exact h
 ·split <;> exact h.stop
theorem gD.fC {H:fx} (h:gD H.dp) (g:LogS) (n:Nat) (b:List UInt8):gD (fC H g n b).1.dp:=by
 unfold _root_.Go.Proofs.YtkkfmkhbdoeglaaGreatDoor.fC
 have h1:=gD.writes (fR (g.stamp+1) b) H n h
 generalize fZ (fR (g.stamp+1) b) H n=q at h1⊢
 obtain ⟨H1,r⟩:=q
 cases r with
 | some f=>exact h1
 | none=>exact h1.flush
theorem gD.fI {H:fx} (h:gD H.dp) (g:LogS) (v:Nat) (T:List E):gD (fI H g v T).1.dp:=by
 unfold _root_.Go.Proofs.YtkkfmkhbdoeglaaGreatDoor.fI
 have h1:=h.fC g ((1-g.slot)*placeOf H.seen.length) (ic v T)
 generalize _root_.Go.Proofs.YtkkfmkhbdoeglaaGreatDoor.fC H g ((1-g.slot)*placeOf H.seen.length) (ic v T)=q at h1⊢
 obtain ⟨H1,r⟩:=q
 cases r with
 | some f=>exact h1
 | none=>exact h1
theorem gD.gj {H:fx} (h:gD H.dp) (g:LogS) (b:List UInt8):gD (gj H g b).1.dp:=by
 unfold _root_.Go.Proofs.YtkkfmkhbdoeglaaGreatDoor.gj
 have h1:=h.fC g g.next b
 generalize _root_.Go.Proofs.YtkkfmkhbdoeglaaGreatDoor.fC H g g.next b=q at h1⊢
 obtain ⟨H1,r⟩:=q
 cases r with
 | some f=>exact h1
 | none=>exact h1
theorem gD.gF {H:fx} (h:gD H.dp) (g:LogS) (b:List UInt8) (v:Nat) (T:List E):gD (gF H g b v T).1.dp:=by
 unfold _root_.Go.Proofs.YtkkfmkhbdoeglaaGreatDoor.gF
 split
 ·have h1:=h.fI g v T
  generalize _root_.Go.Proofs.YtkkfmkhbdoeglaaGreatDoor.fI H g v T=q at h1⊢
  obtain ⟨H1,g1,r⟩:=q
  cases r with
  | some f=>exact h1
  | none=>exact gD.gj (H:=H1) h1 g1 b
 ·exact h.gj g b
theorem gD.takes {H:fx} (h:gD H.dp) (p:PAg) (tk:gS):gD (jB H p tk).1.dp:=by
 unfold jB
 split
 ·exact h
 ·have h1:gD (tk.log H p).1.dp:=by
   cases tk with
   | delta v os=>exact h.gF _ _ _ _
   | state v T=>exact h.fI _ _ _
  generalize tk.log H p=q at h1⊢
  obtain ⟨H1,g1,r⟩:=q
  cases r with
  | some f=>exact h1
  | none=>exact gD.run _ h1
theorem gD.recv {H:fx} (h:gD H.dp) (p:PAg) (frame:List UInt8):gD (iO H p frame).1.dp:=by
 unfold iO
 split
 ·exact h
 ·exact h.takes _ _
theorem gD.start {H:fx} (h:gD H.dp):gD (gO H).1.dp:=by
 unfold gO readAll
 split
 ·rename_i H1 f he
  split at he
  ·cases he;exact h
  ·cases he
 ·rename_i H1 he
  have h1:gD H1.dp:=by
   split at he
   ·cases he
   ·cases he;exact h
  simp only
  split
  ·exact h1
  ·exact gD.run _ h1
theorem Dv (a:AgA):a.tick.V=a.V∧a.tick.T=a.T∧a.tick.deg=a.deg:=by
 have h:∀ k b,(a.put k b).V=a.V∧(a.put k b).T=a.T∧(a.put k b).deg=a.deg:=fun k b=>⟨(iS a k b).2.1,(iS a k b).2.2,(iS a k b).1⟩
 unfold AgA.tick
 split
 ·exact h _ _
 ·split
  ·exact h _ _
  ·exact h _ _
theorem Db (a:AgA):a.next.1.V=a.V∧a.next.1.T=a.T∧a.next.1.deg=a.deg:=by
 unfold AgA.next
 split <;> exact ⟨rfl,rfl,rfl⟩
theorem MachSt.own {n:Nat} {l:List Int} {s B:Nat} {H:fx} {p:PAg} {a a1:AgA} {maybe:List (Nat×List E)} {ever:List E} {armed:Bool} (h:MachSt n l s B H (some p) a maybe ever armed) (h1:a1.V=a.V) (h2:a1.T=a.T) (h3:a1.deg=a.deg) (b:p.a.deg=a.deg) (d:a1.Fit):MachSt n l s B H (some {p with a:=a1}) a1 maybe ever armed :=
 ⟨h.inv.own h1 h2 h3,h.fine,fun q hq=>by cases hq;exact d,fun q f hq hd=>by
  cases hq
  exact h.sec p f rfl (by rw [b,←h3];exact hd)⟩
theorem MachSt.nE {n:Nat} {l:List Int} {s B:Nat} {H:fx} {P:Option PAg} {a:AgA} {maybe:List (Nat×List E)} {ever:List E} {armed:Bool} (h:MachSt n l s B H P a maybe ever armed) (k i d:Int) (lg:List (List UInt8)) (b:Bool) (ha:0≤d→b=true) (hk:0≤k∧k≤B) (h1 : -1≤i∧i≤9223372036854775807) (h2 : -1≤d∧d≤9223372036854775807) (h3:lg.length≤B) :
  MachSt n l s B {H with writes:=k,fail:=d,dp := {H.dp with left:=i,log:=lg}} P a maybe ever b:=⟨h.inv.nE k i d lg b ha,h.fine.nE k i d lg hk h1 h2 h3,h.fit,h.sec⟩
theorem MachSt.mono {n:Nat} {l:List Int} {s t B C:Nat} {H:fx} {P:Option PAg} {a:AgA} {maybe:List (Nat×List E)} {ever ever':List E} {armed:Bool} (h:MachSt n l s B H P a maybe ever armed) (hs:s≤t) (b:B≤C) (he:∀ x∈ever,x∈ever'):MachSt n l t C H P a maybe ever' armed:=⟨h.inv.mono hs he,h.fine.mono b,h.fit,h.sec⟩
theorem zz {H H':fx} {k at' f:Nat} (b:32≤H.seen.length∧H.seen.length≤128) (h:gO H=(H',.inr (k,at',f))):f≤100000:=by
 unfold gO readAll at h
 split at h
 ·rename_i H1 g he
  split at he
  ·cases he;cases h;omega
  ·cases he
 ·rename_i H1 he
  simp only at h
  split at h
  ·cases h;omega
  ·cases h
theorem MachSt.qG {n:Nat} {l:List Int} {s B:Nat} {H:fx} {P:Option PAg} {a:AgA} {maybe:List (Nat×List E)} {ever:List E} {armed:Bool} (h:MachSt n l s B H P a maybe ever armed) (mask cut fail:Int) (hc:cut≤9223372036854775807) (j:fail≤9223372036854775807) :
  (∃ H' f,gO (H.again mask cut fail)=(H',.inr (12,0,f))∧1≤f∧f≤100000∧0≤fail∧MachSt n l s (B+480) H' none a maybe ever (decide (0≤fail))∧∀ x∈H'.dp.S,x∈ever)∨
  (∃ H' p v T,gO (H.again mask cut fail)=(H',.inl p)∧(v,T)∈maybe∧p.a=begunA v T∧(∀ x∈H'.dp.S,x∈ever)∧(H'.dp.dead=true→MachSt n l s (B+480) H' (some p) a maybe ever (decide (0≤fail)))∧
   (H'.dp.dead=false→MachSt n l s (B+480) H' (some p) (begunA v T) [(v,T)] ever (decide (0≤fail)))):=by
 have b:=(h.fine.again mask cut fail hc j).start (h.inv.opens mask cut fail)
 rcases h.inv.qG mask cut fail with ⟨H',f,h1,h2,h3,h4,h5⟩ | ⟨H',p,v,T,h1,h2,h3,h4,h5,h6⟩
 ·left
  have m:=zz (h.fine.again mask cut fail hc j).ok.n h1
  rw [h1] at b
  exact ⟨H',f,h1,h2,m,h3,⟨h4,b,fun q hq=>(by cases hq),fun q f hq=>(by cases hq)⟩,h5⟩
 ·right
  rw [h1] at b
  have d:p.a.Fit:=by rw [h3];exact AgA.Fit.begun v T (h.inv.tabs _ h2).v64
  have i:∀ q f,some p=some q→q.a.deg=some f→1≤f.1∧f.1≤14∧q.sec≤100000:=fun q f hq hd=>by
   cases hq
   rw [h3,(jk v T).2.2] at hd
   cases hd
  exact ⟨H',p,v,T,h1,h2,h3,h4,fun hd=>⟨h5 hd,b,fun q hq=>(by cases hq;exact d),i⟩,fun hd=>⟨h6 hd,b,fun q hq=>(by cases hq;exact d),i⟩⟩
theorem MachSt.begun (n:Nat) (l:List Int) (i:32≤n∧n≤128) :
  ∃ H' p,gO (mc n (roomN l))=(H',.inl p)∧p.a=begunA 0 []∧H'.dp.dead=false∧H'.dp.left = -1∧H'.dp.log=[]∧MachSt n l 0 480 H' (some p) (begunA 0 []) [(0,[])] [] false:=by
 obtain ⟨H',p,h1,h2,h3,h4,h5⟩:=WInv.begun n l i
 have b:=(Fine.new n l i).start (wB n l i)
 have d:gD (gO (mc n (roomN l))).1.dp:=gD.start (H:=mc n (roomN l)) ⟨rfl,rfl⟩
 rw [h1] at b d
 refine ⟨H',p,h1,h2,h3,d.1,h4,h5,b.mono (by omega),fun q hq => ?_,fun q f hq hd => ?_⟩
 ·cases hq
  rw [h2]
  exact AgA.Fit.begun 0 [] (by omega)
 ·cases hq
  rw [h2,(jk 0 []).2.2] at hd
  cases hd
end Go.Proofs.YtkkfmkhbdoeglaaGreatDoor
