/- A part of what is proved here: lemmas and contracts of single functions. No condition but those that each names. -/
import Derived.Test.YtkkfmkhbdoeglabGreatDoorG00
import Derived.Test.YtkkfmkhbdoeglabGreatDoorG14
import Derived.Test.YtkkfmkhbdoeglabGreatDoorG37
import Derived.Test.YtkkfmkhbdoeglabGreatDoorG38
namespace Go.Proofs.YtkkfmkhbdoeglabGreatDoor
open Go.RowKit Go.Shelf
def HostX (w:World) (M:Nat→Prop) (X:Nat) (H:fP) (P:Option PAg):Prop:=∃ h b,w.heap[X]?=some (.cells #[.pointer (some ⟨h,0,none⟩),b] 136 (0,0))∧M X∧match P with
 | none=>b = .pointer none∧∃ F,HostAt w F h H∧∀ k,F k→M k∧k≠X
 | some p=>∃ a d,b = .pointer (some ⟨a,0,none⟩)∧Eb w d a h H p∧∀ k,d k→M k∧k≠X
def jz (w:World) (M:Nat→Prop) (X:Nat) (H:fP) (P:Option PAg) (w':World):Prop:=∃ b,HostX w' b X H P∧(∀ k,b k→M k∨w.heap.size≤k)∧Ext M w w'
theorem HostX.frame {w w':World} {D M:Nat→Prop} {X:Nat} {H:fP} {P:Option PAg} (d:HostX w M X H P) (b:Ext D w w') (hd:∀ k,M k→¬D k):HostX w' M X H P:=by
 obtain ⟨h,i,h1,h2,h3⟩:=d
 refine ⟨h,i,b.at (hd X h2) h1,h2,?_⟩
 cases P with
 | none =>
  obtain ⟨h4,F,h5,h6⟩:=h3
  exact ⟨h4,F,h5.ext b fun k hk=>hd k (h6 k hk).1,h6⟩
 | some p =>
  obtain ⟨a,j,h4,h5,h6⟩:=h3
  exact ⟨a,j,h4,h5.frame b fun k hk=>hd k (h6 k hk).1,h6⟩
theorem HostX.below {w w':World} {M:Nat→Prop} {X:Nat} {H:fP} {P:Option PAg} (b:HostX w M X H P) (d:Below w.heap.size w w'):HostX w' M X H P:=b.frame (D:=fun _=>False) (Ext.fT d) fun _ _=>id
theorem jz.gD {w w1 w':World} {M:Nat→Prop} {X:Nat} {H:fP} {P:Option PAg} (b:Below w.heap.size w w1) (d:jz w1 M X H P w'):jz w M X H P w':=by
 obtain ⟨i,h1,h2,h3⟩:=d
 exact ⟨i,h1,fun k hk=>(h2 k hk).imp id (aH b.size),(Ext.fT b).trans h3⟩
theorem jz.below {w w1 w':World} {M:Nat→Prop} {X:Nat} {H:fP} {P:Option PAg} (d:jz w M X H P w1) (b:Below w1.heap.size w1 w'):jz w M X H P w':=by
 obtain ⟨i,h1,h2,h3⟩:=d
 exact ⟨i,h1.below b,h2,h3.trans (Ext.fT b)⟩
theorem HostX.go {w:World} {M:Nat→Prop} {X:Nat} {H:fP} {P:Option PAg} (b:HostX w M X H P):jz w M X H P w:=⟨M,b,fun _ => .inl,Ext.refl _ _⟩
theorem HostX.G5 {w:World} {M:Nat→Prop} {X:Nat} {H:fP} {p:PAg} (d:HostX w M X H (some p)):∃ h a b,w.heap[X]?=some (.cells #[.pointer (some ⟨h,0,none⟩),.pointer (some ⟨a,0,none⟩)] 136 (0,0))∧M X∧Eb w b a h H p∧∀ k,b k→M k∧k≠X:=by
 obtain ⟨h,i,h1,h2,a,b,rfl,h4,h5⟩:=d
 exact ⟨h,a,b,h1,h2,h4,h5⟩
theorem kv.Io {w w':World} {M i:Nat→Prop} {X h a:Nat} {H:fP} {p:PAg} (b:w.heap[X]?=some (.cells #[.pointer (some ⟨h,0,none⟩),.pointer (some ⟨a,0,none⟩)] 136 (0,0))) (j:M X) (d:∀ k,i k→M k∧k≠X) (l:kv w i a h H p w'):jz w M X H (some p) w':=by
 obtain ⟨m,g1,g2,g3⟩:=l
 have o:=fO b
 refine ⟨fun k=>M k∨w.heap.size≤k,⟨h,_,g3.at (fun e=>(d X e).2 rfl) b,.inl j,a,m,rfl,g1,fun k hk => ?_⟩,fun k hk=>hk,g3.mono fun k hk=>(d k hk).1⟩
 rcases g2 k hk with e | e
 ·exact ⟨.inl (d k e).1,(d k e).2⟩
 ·exact ⟨.inr e,by omega⟩
theorem HostX.host {w:World} {M:Nat→Prop} {X:Nat} {H:fP} {P:Option PAg} (d:HostX w M X H P):∃ h b F,w.heap[X]?=some (.cells #[.pointer (some ⟨h,0,none⟩),b] 136 (0,0))∧M X∧HostAt w F h H∧(∀ k,F k→M k∧k≠X)∧(b = .pointer none↔P=none)∧∃ a,b = .pointer a:=by
 obtain ⟨h,b,h1,h2,h3⟩:=d
 cases P with
 | none =>
  obtain ⟨rfl,F,h5,h6⟩:=h3
  exact ⟨h,_,F,h1,h2,h5,h6,by simp,_,rfl⟩
 | some p =>
  obtain ⟨a,i,rfl,⟨F,G,O,x,h4,h5⟩,h6⟩:=h3
  exact ⟨h,_,F,h1,h2,h4.host,fun k hk=>h6 k (h5 k (.inl hk)),by simp,_,rfl⟩
theorem Hm (M:Nat→Prop) (X:Nat) (H:fP) (P:Option PAg) (w:World) (d:HostX w M X H P) :
  Calls Tryz.prog 48 #[.pointer (some ⟨X,0,none⟩)] w fun e w'=>e = .returned (.bool P.isSome)∧w'=w:=by
 obtain ⟨h,i,h1,-,h3⟩:=d
 cases P with
 | none =>
  obtain ⟨rfl,-⟩:=h3
  have c1:=ae _ _ 1 _ _ _ h1
  have b:=fO h1
  clear h1
  go_enter Tryz.func48,Tryz.ntmps48
  go_wp2
  go_ret
  exact ⟨rfl,rfl⟩
 | some p =>
  obtain ⟨a,-,rfl,-⟩:=h3
  have c1:=ae _ _ 1 _ _ _ h1
  have b:=fO h1
  clear h1
  go_enter Tryz.func48,Tryz.ntmps48
  go_wp2
  go_ret
  exact ⟨rfl,rfl⟩
theorem EB (M:Nat→Prop) (X:Nat) (H:fP) (P:Option PAg) (w:World) (d:HostX w M X H P) :
  Calls Tryz.prog 45 #[.pointer (some ⟨X,0,none⟩)] w fun e w'=>e = .returned (.bool H.dp.dead)∧w'=w:=by
 obtain ⟨h,l,F,h1,-,⟨x,h2⟩,-⟩:=d.host
 have b:w.heap[h]?=_:=h2.dp.row
 unfold HV.cells at b
 have c0:=ae _ _ 0 _ _ _ h1
 have d5:=ae _ _ 5 _ _ _ b
 have hd:=h2.dp.dead
 have i:=fO h1
 have j:=fO b
 rw [hd] at d5
 clear h1 b hd h2
 go_enter Tryz.func45,Tryz.ntmps45
 go_wp2
 go_ret
 exact ⟨rfl,rfl⟩
theorem zl (M:Nat→Prop) (X:Nat) (H:fP) (p:PAg) (w:World) (b:HostX w M X H (some p)) :
  Calls Tryz.prog 40 #[.pointer (some ⟨X,0,none⟩)] w fun e w'=>e = .returned (.int .u64 (p.a.V:Nat))∧w'=w:=by
 obtain ⟨h,a,j,h1,-,⟨F,G,O,x,hm,-⟩,-⟩:=b.G5
 have c1:=ae _ _ 1 _ _ _ h1
 have i:=fO h1
 have d:=ab hm.ag
 clear h1 hm
 go_enter Tryz.func40,Tryz.ntmps40
 go_wp2_with fail
 refine (xw a h p x G O w d.out).mono ?_
 rintro e w1 ⟨rfl,rfl⟩
 go_wp2
 go_ret
 exact ⟨rfl,rfl⟩
theorem ED (M:Nat→Prop) (X:Nat) (H:fP) (p:PAg) (w:World) (l:HostX w M X H (some p)) (b:p.a.Fit) :
  Calls Tryz.prog 38 #[.pointer (some ⟨X,0,none⟩)] w fun e w'=>e = .returned (.tuple #[])∧jz w M X H (some {p with a:=p.a.tick}) w':=by
 obtain ⟨h,a,m,h1,h2,⟨F,G,O,x,hm,d⟩,o⟩:=l.G5
 have c1:=ae _ _ 1 _ _ _ h1
 have u:=fO h1
 have i:=ab hm
 have q:=ab h1
 have r:p.a.Ez<256:=by
  unfold AgA.Ez
  cases hc:p.a.com with
  | none=>simp
  | some y =>
   obtain ⟨tv,of,got⟩:=y
   obtain ⟨c1,c2,-⟩:=b.com tv of got hc
   simp only
   omega
 clear h1 hm
 go_enter Tryz.func38,Tryz.ntmps38
 go_wp2_with fail
 refine (BY a h p x G O w i.out.ag (by have:=b.v;omega) r).mono ?_
 rintro e w1 ⟨rfl,j⟩
 have s:=ab (kv.Io q.out h2 o (ic.oX (M:=m) i.out (fun k hk => .inl (d k hk)) (Ext.refl _ _) j))
 clear j
 go_wp2
 go_end0
 exact ⟨rfl,s.out⟩
theorem zi (M:Nat→Prop) (X:Nat) (H:fP) (p:PAg) (w:World) (m:HostX w M X H (some p)) (o:p.a.T.length≤1000000000) :
  Calls Tryz.prog 50 #[.pointer (some ⟨X,0,none⟩)] w fun e w'=>∃ v,e = .returned (.tuple #[v,.bool true])∧iJ w' v p.a.T∧(∀ k,v.ownBlock=some k→w.heap.size≤k)∧Below w.heap.size w w':=by
 obtain ⟨h,a,y,h1,-,⟨F,G,O,x,hm,-⟩,-⟩:=m.G5
 have c1:=ae _ _ 1 _ _ _ h1
 have s:=fO h1
 have b:=hm.ag.row
 unfold AV.cells at b
 have r0:=ae _ _ 0 _ _ _ b
 have u:=fO b
 have d:Below w.heap.size w (w.alloc (.cells #[.pointer (some ⟨a,0,none⟩)] 219)):=(Below.refl _ w).alloc (af _) _
 have he:EntAt w a 0 x.r p.a.T:=⟨r0,hm.ag.tab⟩
 have i:=ab (wH w.heap.size a 0 x.r p.a.T (w.alloc (.cells #[.pointer (some ⟨a,0,none⟩)] 219)) (by simp) (ae _ _ 0 _ _ _ (fR w _)) (he.below d) o)
 clear h1 hm b he
 go_enter Tryz.func50,Tryz.ntmps50
 go_wp2_with fail
 refine (py a 0 w).mono ?_
 rintro e w1 ⟨rfl,rfl⟩
 go_wp2_with fail
 refine i.out.mono ?_
 rintro e w2 ⟨v,rfl,q,j,l⟩
 clear c1 r0 i
 go_wp2
 go_ret2
 exact ⟨v,rfl,q,fun k e=>aH d.size (j k e),d.trans (l.mono d.size)⟩
theorem EA (M:Nat→Prop) (X:Nat) (H:fP) (P:Option PAg) (w:World) (i:HostX w M X H P) (j:H.dp.S.length≤1000000) :
  Calls Tryz.prog 52 #[.pointer (some ⟨X,0,none⟩)] w fun e w'=>∃ v,e = .returned v∧iJ w' v H.dp.S∧Below w.heap.size w w':=by
 obtain ⟨h,o,F,h1,-,⟨x,h2⟩,-⟩:=i.host
 have c0:=ae _ _ 0 _ _ _ h1
 have m:=fO h1
 have b:=ab (EE h x H.dp.S w h2.dp.row h2.dp.tab j)
 clear h1 h2
 go_enter Tryz.func52,Tryz.ntmps52
 go_wp2_with fail
 refine b.out.mono ?_
 rintro e w2 ⟨v,rfl,l,d⟩
 clear c0 b
 go_wp2
 go_ret
 exact ⟨v,rfl,l,d⟩
theorem HostX.opened {w:World} {M:Nat→Prop} {X:Nat} {H:fP} {P:Option PAg} (m:HostX w M X H P):∃ h l F x,w.heap[X]?=some (.cells #[.pointer (some ⟨h,0,none⟩),l] 136 (0,0))∧gT w F h x H∧X≠h∧∀ w' H' x',gT w' F h x' H'→Ext (fun k=>k=h) w w'→jz w M X H' P w':=by
 obtain ⟨h,l,h1,h2,h3⟩:=m
 cases P with
 | none =>
  obtain ⟨rfl,F,⟨x,h5⟩,h6⟩:=h3
  refine ⟨h,_,F,x,h1,h5,fun e=>(h6 h h5.foot.1).2 e.symm,fun w' H' x' j b=>⟨M,⟨h,_,b.at (fun e=>(h6 h h5.foot.1).2 e.symm) h1,h2,rfl,F,⟨x',j⟩,h6⟩,fun k => .inl,b.mono fun k e=>e▸(h6 h h5.foot.1).1⟩⟩
 | some p =>
  obtain ⟨a,o,rfl,⟨F,G,O,q,hm,i⟩,h6⟩:=h3
  obtain ⟨x,h5⟩:=hm.host
  have d:=h6 h (i h (.inl h5.foot.1))
  refine ⟨h,_,F,x,h1,h5,fun e=>d.2 e.symm,fun w' H' x' j b=>⟨M,⟨h,_,b.at (fun e=>d.2 e.symm) h1,h2,a,o,rfl,⟨F,G,O,q,⟨⟨x',j⟩,hm.ag.frame b (fun k hk e=>hm.fg h h5.foot.1 (e▸hk)) fun k hk e=>hm.fo h h5.foot.1 (e▸hk),hm.fg,hm.fo⟩,i⟩,h6⟩,fun k => .inl,b.mono fun k e=>e▸d.1⟩⟩
theorem FU (M:Nat→Prop) (X:Nat) (H:fP) (P:Option PAg) (n:Int) (w:World) (j:HostX w M X H P) (r:n≤9223372036854775807) :
  Calls Tryz.prog 44 #[.pointer (some ⟨X,0,none⟩),.int .i64 n] w fun e w'=>e = .returned (.tuple #[])∧jz w M X {H with dp := {H.dp with left:=max n (-1)}} P w'∧w'.heap.size=w.heap.size:=by
 obtain ⟨h,s,F,x,h1,h2,h3,h4⟩:=j.opened
 have b:w.heap[h]?=_:=h2.dp.row
 have l:=ab b
 unfold HV.cells at b
 have c0:=ae _ _ 0 _ _ _ h1
 have d3:=ae _ _ 3 _ _ _ b
 have z3:=aj _ _ 3 _ _ b
 have o:=fO h1
 have q:=fO b
 have d:=ab h2
 have m:=ab h4
 clear h1 h2 h4 b
 go_enter Tryz.func44,Tryz.ntmps44
 go_wp2
 go_end0
 have i:Ext (fun k=>k=h) w (w.setCell ⟨h,3,none⟩ (.int .i64 (max n (-1)))):=(Ext.refl _ w).setCell ⟨h,3,none⟩ _ (.inl rfl)
 refine ⟨rfl,m.out _ _ {x with left:=max n (-1)} (d.out.row (heap_setCell _ _ 3 _ l.out) (size_setCell _ _ _) i ⟨rfl,rfl,rfl,rfl,rfl,rfl⟩ ⟨rfl,rfl,rfl,rfl,rfl,rfl⟩ ⟨rfl,d.out.dp.dead,d.out.fail,d.out.writes⟩ ?_) i,size_setCell _ _ _⟩
 show -1≤max n (-1)∧max n (-1)≤_
 omega
end Go.Proofs.YtkkfmkhbdoeglabGreatDoor
