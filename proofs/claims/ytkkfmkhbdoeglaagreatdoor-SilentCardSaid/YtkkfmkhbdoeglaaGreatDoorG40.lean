/- A part of what is proved here: lemmas and contracts of single functions. No condition but those that each names. -/
import Derived.Test.YtkkfmkhbdoeglaaGreatDoorG00
import Derived.Test.YtkkfmkhbdoeglaaGreatDoorG17
import Derived.Test.YtkkfmkhbdoeglaaGreatDoorG38
import Derived.Test.YtkkfmkhbdoeglaaGreatDoorG39
namespace Go.Proofs.YtkkfmkhbdoeglaaGreatDoor
open Go.RowKit Go.Shelf
def HostX (w:World) (M:Nat→Prop) (X:Nat) (H:fx) (P:Option PAg):Prop:=∃ h b,w.heap[X]?=some (.cells #[.pointer (some ⟨h,0,none⟩),b] 91 (0,0))∧M X∧match P with
 | none=>b = .pointer none∧∃ F,HostAt w F h H∧∀ k,F k→M k∧k≠X
 | some p=>∃ a d,b = .pointer (some ⟨a,0,none⟩)∧Cx w d a h H p∧∀ k,d k→M k∧k≠X
def iZ (w:World) (M:Nat→Prop) (X:Nat) (H:fx) (P:Option PAg) (w':World):Prop:=∃ b,HostX w' b X H P∧(∀ k,b k→M k∨w.heap.size≤k)∧Ext M w w'
theorem HostX.frame {w w':World} {D M:Nat→Prop} {X:Nat} {H:fx} {P:Option PAg} (d:HostX w M X H P) (b:Ext D w w') (hd:∀ k,M k→¬D k):HostX w' M X H P:=by
 obtain ⟨h,i,h1,h2,h3⟩:=d
 refine ⟨h,i,b.at (hd X h2) h1,h2,?_⟩
 cases P with
 | none =>
  obtain ⟨h4,F,h5,h6⟩:=h3
  exact ⟨h4,F,h5.ext b fun k hk=>hd k (h6 k hk).1,h6⟩
 | some p =>
  obtain ⟨a,j,h4,h5,h6⟩:=h3
  exact ⟨a,j,h4,h5.frame b fun k hk=>hd k (h6 k hk).1,h6⟩
theorem HostX.below {w w':World} {M:Nat→Prop} {X:Nat} {H:fx} {P:Option PAg} (b:HostX w M X H P) (d:Below w.heap.size w w'):HostX w' M X H P:=b.frame (D:=fun _=>False) (Ext.fD d) fun _ _=>id
theorem iZ.fS {w w1 w':World} {M:Nat→Prop} {X:Nat} {H:fx} {P:Option PAg} (b:Below w.heap.size w w1) (d:iZ w1 M X H P w'):iZ w M X H P w':=by
 obtain ⟨i,h1,h2,h3⟩:=d
 exact ⟨i,h1,fun k hk=>(h2 k hk).imp id (aH b.size),(Ext.fD b).trans h3⟩
theorem iZ.below {w w1 w':World} {M:Nat→Prop} {X:Nat} {H:fx} {P:Option PAg} (d:iZ w M X H P w1) (b:Below w1.heap.size w1 w'):iZ w M X H P w':=by
 obtain ⟨i,h1,h2,h3⟩:=d
 exact ⟨i,h1.below b,h2,h3.trans (Ext.fD b)⟩
theorem HostX.go {w:World} {M:Nat→Prop} {X:Nat} {H:fx} {P:Option PAg} (b:HostX w M X H P):iZ w M X H P w:=⟨M,b,fun _ => .inl,Ext.refl _ _⟩
theorem HostX.E5 {w:World} {M:Nat→Prop} {X:Nat} {H:fx} {p:PAg} (d:HostX w M X H (some p)):∃ h a b,w.heap[X]?=some (.cells #[.pointer (some ⟨h,0,none⟩),.pointer (some ⟨a,0,none⟩)] 91 (0,0))∧M X∧Cx w b a h H p∧∀ k,b k→M k∧k≠X:=by
 obtain ⟨h,i,h1,h2,a,b,rfl,h4,h5⟩:=d
 exact ⟨h,a,b,h1,h2,h4,h5⟩
theorem jM.FQ {w w':World} {M i:Nat→Prop} {X h a:Nat} {H:fx} {p:PAg} (b:w.heap[X]?=some (.cells #[.pointer (some ⟨h,0,none⟩),.pointer (some ⟨a,0,none⟩)] 91 (0,0))) (j:M X) (d:∀ k,i k→M k∧k≠X) (l:jM w i a h H p w'):iZ w M X H (some p) w':=by
 obtain ⟨m,g1,g2,g3⟩:=l
 have o:=fw b
 refine ⟨fun k=>M k∨w.heap.size≤k,⟨h,_,g3.at (fun e=>(d X e).2 rfl) b,.inl j,a,m,rfl,g1,fun k hk => ?_⟩,fun k hk=>hk,g3.mono fun k hk=>(d k hk).1⟩
 rcases g2 k hk with e | e
 ·exact ⟨.inl (d k e).1,(d k e).2⟩
 ·exact ⟨.inr e,by omega⟩
theorem HostX.host {w:World} {M:Nat→Prop} {X:Nat} {H:fx} {P:Option PAg} (d:HostX w M X H P):∃ h b F,w.heap[X]?=some (.cells #[.pointer (some ⟨h,0,none⟩),b] 91 (0,0))∧M X∧HostAt w F h H∧(∀ k,F k→M k∧k≠X)∧(b = .pointer none↔P=none)∧∃ a,b = .pointer a:=by
 obtain ⟨h,b,h1,h2,h3⟩:=d
 cases P with
 | none =>
  obtain ⟨rfl,F,h5,h6⟩:=h3
  exact ⟨h,_,F,h1,h2,h5,h6,by simp,_,rfl⟩
 | some p =>
  obtain ⟨a,i,rfl,⟨F,G,O,x,h4,h5⟩,h6⟩:=h3
  exact ⟨h,_,F,h1,h2,h4.host,fun k hk=>h6 k (h5 k (.inl hk)),by simp,_,rfl⟩
theorem Fk (M:Nat→Prop) (X:Nat) (H:fx) (P:Option PAg) (w:World) (d:HostX w M X H P) :
  Calls Tryz.prog 41 #[.pointer (some ⟨X,0,none⟩)] w fun e w'=>e = .returned (.bool P.isSome)∧w'=w:=by
 obtain ⟨h,i,h1,-,h3⟩:=d
 cases P with
 | none =>
  obtain ⟨rfl,-⟩:=h3
  have c1:=ae _ _ 1 _ _ _ h1
  have b:=fw h1
  clear h1
  go_enter Tryz.func41,Tryz.ntmps41
  go_wp2
  go_ret
  exact ⟨rfl,rfl⟩
 | some p =>
  obtain ⟨a,-,rfl,-⟩:=h3
  have c1:=ae _ _ 1 _ _ _ h1
  have b:=fw h1
  clear h1
  go_enter Tryz.func41,Tryz.ntmps41
  go_wp2
  go_ret
  exact ⟨rfl,rfl⟩
theorem xC (M:Nat→Prop) (X:Nat) (H:fx) (p:PAg) (w:World) (b:HostX w M X H (some p)) :
  Calls Tryz.prog 15 #[.pointer (some ⟨X,0,none⟩)] w fun e w'=>e = .returned (.int .u64 (p.a.V:Nat))∧w'=w:=by
 obtain ⟨h,a,j,h1,-,⟨F,G,O,x,hm,-⟩,-⟩:=b.E5
 have c1:=ae _ _ 1 _ _ _ h1
 have i:=fw h1
 have d:=ab hm.ag
 clear h1 hm
 go_enter Tryz.func15,Tryz.ntmps15
 go_wp2_with fail
 refine (vd a h p x G O w d.out).mono ?_
 rintro e w1 ⟨rfl,rfl⟩
 go_wp2
 go_ret
 exact ⟨rfl,rfl⟩
theorem CZ (M:Nat→Prop) (X:Nat) (H:fx) (p:PAg) (w:World) (l:HostX w M X H (some p)) (b:p.a.Fit) :
  Calls Tryz.prog 17 #[.pointer (some ⟨X,0,none⟩)] w fun e w'=>e = .returned (.tuple #[])∧iZ w M X H (some {p with a:=p.a.tick}) w':=by
 obtain ⟨h,a,m,h1,h2,⟨F,G,O,x,hm,d⟩,o⟩:=l.E5
 have c1:=ae _ _ 1 _ _ _ h1
 have u:=fw h1
 have i:=ab hm
 have q:=ab h1
 have r:p.a.CX<256:=by
  unfold AgA.CX
  cases hc:p.a.com with
  | none=>simp
  | some y =>
   obtain ⟨tv,of,got⟩:=y
   obtain ⟨c1,c2,-⟩:=b.com tv of got hc
   simp only
   omega
 clear h1 hm
 go_enter Tryz.func17,Tryz.ntmps17
 go_wp2_with fail
 refine (Bh a h p x G O w i.out.ag (by have:=b.v;omega) r).mono ?_
 rintro e w1 ⟨rfl,j⟩
 have s:=ab (jM.FQ q.out h2 o (gI.nT (M:=m) i.out (fun k hk => .inl (d k hk)) (Ext.refl _ _) j))
 clear j
 go_wp2
 go_end0
 exact ⟨rfl,s.out⟩
theorem xv (M:Nat→Prop) (X:Nat) (H:fx) (p:PAg) (w:World) (m:HostX w M X H (some p)) (o:p.a.T.length≤1000000000) :
  Calls Tryz.prog 16 #[.pointer (some ⟨X,0,none⟩)] w fun e w'=>∃ v,e = .returned (.tuple #[v,.bool true])∧iB w' v p.a.T∧(∀ k,v.ownBlock=some k→w.heap.size≤k)∧Below w.heap.size w w':=by
 obtain ⟨h,a,y,h1,-,⟨F,G,O,x,hm,-⟩,-⟩:=m.E5
 have c1:=ae _ _ 1 _ _ _ h1
 have s:=fw h1
 have b:=hm.ag.row
 unfold AV.cells at b
 have r0:=ae _ _ 0 _ _ _ b
 have u:=fw b
 have d:Below w.heap.size w (w.alloc (.cells #[.pointer (some ⟨a,0,none⟩)] 173)):=(Below.refl _ w).alloc (af _) _
 have he:EntAt w a 0 x.r p.a.T:=⟨r0,hm.ag.tab⟩
 have i:=ab (zN w.heap.size a 0 x.r p.a.T (w.alloc (.cells #[.pointer (some ⟨a,0,none⟩)] 173)) (by simp) (ae _ _ 0 _ _ _ (fA w _)) (he.below d) o)
 clear h1 hm b he
 go_enter Tryz.func16,Tryz.ntmps16
 go_wp2_with fail
 refine (qx a 0 w).mono ?_
 rintro e w1 ⟨rfl,rfl⟩
 go_wp2_with fail
 refine i.out.mono ?_
 rintro e w2 ⟨v,rfl,q,j,l⟩
 clear c1 r0 i
 go_wp2
 go_ret2
 exact ⟨v,rfl,q,fun k e=>aH d.size (j k e),d.trans (l.mono d.size)⟩
theorem HostX.opened {w:World} {M:Nat→Prop} {X:Nat} {H:fx} {P:Option PAg} (m:HostX w M X H P):∃ h l F x,w.heap[X]?=some (.cells #[.pointer (some ⟨h,0,none⟩),l] 91 (0,0))∧gB w F h x H∧X≠h∧∀ w' H' x',gB w' F h x' H'→Ext (fun k=>k=h) w w'→iZ w M X H' P w':=by
 obtain ⟨h,l,h1,h2,h3⟩:=m
 cases P with
 | none =>
  obtain ⟨rfl,F,⟨x,h5⟩,h6⟩:=h3
  refine ⟨h,_,F,x,h1,h5,fun e=>(h6 h h5.foot.1).2 e.symm,fun w' H' x' j b=>⟨M,⟨h,_,b.at (fun e=>(h6 h h5.foot.1).2 e.symm) h1,h2,rfl,F,⟨x',j⟩,h6⟩,fun k => .inl,b.mono fun k e=>e▸(h6 h h5.foot.1).1⟩⟩
 | some p =>
  obtain ⟨a,o,rfl,⟨F,G,O,q,hm,i⟩,h6⟩:=h3
  obtain ⟨x,h5⟩:=hm.host
  have d:=h6 h (i h (.inl h5.foot.1))
  refine ⟨h,_,F,x,h1,h5,fun e=>d.2 e.symm,fun w' H' x' j b=>⟨M,⟨h,_,b.at (fun e=>d.2 e.symm) h1,h2,a,o,rfl,⟨F,G,O,q,⟨⟨x',j⟩,hm.ag.frame b (fun k hk e=>hm.fg h h5.foot.1 (e▸hk)) fun k hk e=>hm.fo h h5.foot.1 (e▸hk),hm.fg,hm.fo⟩,i⟩,h6⟩,fun k => .inl,b.mono fun k e=>e▸d.1⟩⟩
theorem Dp (M:Nat→Prop) (X:Nat) (H:fx) (P:Option PAg) (n:Int) (w:World) (j:HostX w M X H P) :
  Calls Tryz.prog 8 #[.pointer (some ⟨X,0,none⟩),.int .i64 n] w fun e w'=>e = .returned (.tuple #[])∧iZ w M X {H with fail:=max n (-1)} P w'∧w'.heap.size=w.heap.size:=by
 obtain ⟨h,r,F,x,h1,h2,h3,h4⟩:=j.opened
 have b:w.heap[h]?=_:=h2.dp.row
 have l:=ab b
 unfold HV.cells at b
 have c0:=ae _ _ 0 _ _ _ h1
 have d3:=ae _ _ 4 _ _ _ b
 have z3:=aj _ _ 4 _ _ b
 have o:=fw h1
 have q:=fw b
 have d:=ab h2
 have m:=ab h4
 clear h1 h2 h4 b
 go_enter Tryz.func8,Tryz.ntmps8
 go_wp2
 go_end0
 have i:Ext (fun k=>k=h) w (w.setCell ⟨h,4,none⟩ (.int .i64 (max n (-1)))):=(Ext.refl _ w).setCell ⟨h,4,none⟩ _ (.inl rfl)
 exact ⟨rfl,m.out _ _ {x with fail:=max n (-1)} (d.out.row (heap_setCell _ _ 4 _ l.out) (size_setCell _ _ _) i ⟨rfl,rfl,rfl,rfl,rfl,rfl⟩ ⟨rfl,rfl,rfl,rfl,rfl,rfl⟩ ⟨d.out.dp.left,d.out.dp.dead,rfl,d.out.writes⟩ d.out.dp.lb) i,size_setCell _ _ _⟩
end Go.Proofs.YtkkfmkhbdoeglaaGreatDoor
