/- A part of what is proved here: lemmas and contracts of single functions. No condition but those that each names. -/
import Derived.Test.YtkkfmkhbdoeglabGreatDoorG00
import Derived.BigRegionIn
import Derived.Maps.AppendAt
import Derived.RangeFuncBox
import Derived.Test.YtkkfmkhbdoeglabGreatDoorG08
import Derived.Test.YtkkfmkhbdoeglabGreatDoorG09
set_option maxHeartbeats 4000000
set_option maxRecDepth 100000
namespace Go.Proofs.YtkkfmkhbdoeglabGreatDoor
open Go.RowKit
theorem Eu (a:Int) (c d:List UInt8) (w:World):(binOp .eql 101 (.agg #[.int .i64 a,.string ⟨c.toArray⟩,.string ⟨d.toArray⟩]) (.agg #[.int .i64 a,.string ⟨c.toArray⟩,.string ⟨d.toArray⟩])).run Tryz.prog w = .ok (.bool true) w:=by
 have h1:(part 3 #[Value.int .i64 a,.string ⟨c.toArray⟩,.string ⟨d.toArray⟩] 0).run Tryz.prog w = .ok (.int .i64 a) w:=cO w (by kernel_rfl) rfl
 have h2:(part 9 #[Value.int .i64 a,.string ⟨c.toArray⟩,.string ⟨d.toArray⟩] 1).run Tryz.prog w = .ok (.string ⟨c.toArray⟩) w:=cO w (by kernel_rfl) rfl
 have h3:(part 9 #[Value.int .i64 a,.string ⟨c.toArray⟩,.string ⟨d.toArray⟩] 2).run Tryz.prog w = .ok (.string ⟨d.toArray⟩) w:=cO w (by kernel_rfl) rfl
 have b:Tryz.prog.underlying 101=some (.struct (Tryz.prog.fieldsOf 101)):=by kernel_rfl
 have j:Tryz.prog.stoodInHeld 101=false:=by kernel_rfl
 have l:=TypeDesc.struct.inj (Option.some.inj (b.symm.trans Tryz.underlying101))
 have o:∀ m (x y:Int),(Op.equalIn (m+1) 3 (.int .i64 x) (.int .i64 y)).run Tryz.prog w = .ok (x==y) w:=fun m x y=>by simp [Op.equalIn,aL Tryz.underlying3]
 have q:∀ m (x y:ByteArray),(Op.equalIn (m+1) 9 (.string x) (.string y)).run Tryz.prog w = .ok (x==y) w:=fun m x y=>by simp [Op.equalIn,aL Tryz.underlying9]
 have hd:∀ n,(Op.equalIn (n+2) 101 (.agg #[.int .i64 a,.string ⟨c.toArray⟩,.string ⟨d.toArray⟩]) (.agg #[.int .i64 a,.string ⟨c.toArray⟩,.string ⟨d.toArray⟩])).run Tryz.prog w = .ok true w:=by
  intro n
  rw [fA w (n+1) 101 _ _ b j,l]
  simp only [Op.eqFields]
  rw [aD (by decide),aD (by decide),aD (by decide)]
  have r:((⟨c.toArray⟩:ByteArray)==⟨c.toArray⟩)=true:=(cQ _ _).2 rfl
  have i:((⟨d.toArray⟩:ByteArray)==⟨d.toArray⟩)=true:=(cQ _ _).2 rfl
  simp [cn,h1,h2,h3,o,q,cg,r,i]
 have s:=hd 9998
 simp only [binOp]
 simp [Op.equal,Op.maxDepth,s]
def qN (d:World) (bo bi bn k:Nat) (b:Bool):World:=((d.drew.setCell ⟨bo,0,none⟩ (.bool true)).setCell ⟨bi,0,none⟩ (.int .i64 ((k+1:Nat):Int))).setCell ⟨bn,0,none⟩ (.bool b)
theorem AO (bo bn bi bl k:Nat) (v:Value) (l:List E) (w:World) (y:w.cell? ⟨bo,0,none⟩=some (.bool true)) (B:w.cell? ⟨bn,0,none⟩=some (.bool false)) (C:w.cell? ⟨bi,0,none⟩=some (.int .i64 (k:Int))) (q:w.cell? ⟨bl,0,none⟩=some v)
  (fo:w.frozen? ⟨bo,0,none⟩=false) (fn:w.frozen? ⟨bn,0,none⟩=false) (D:w.frozen? ⟨bi,0,none⟩=false) (he:iJ w v l) (hk:k<l.length) (hl:l.length≤1000000000)
  (h1:bo≠bn) (h2:bo≠bi) (h3:bo≠bl) (h4:bn≠bi) (h5:bn≠bl) (h6:bi≠bl) :
  Calls Tryz.prog 134 #[.agg #[.int .i64 l[k].1.1,.string ⟨l[k].1.2.toArray⟩],.string ⟨l[k].2.toArray⟩,.pointer (some ⟨bo,0,none⟩),.pointer (some ⟨bn,0,none⟩),.pointer (some ⟨bi,0,none⟩),.pointer (some ⟨bl,0,none⟩)] w fun e w' =>
   e = .returned (.bool (!decide (l.length / 2<k+1)))∧
   ∃ m,Hid (m=w.alloc (.cells #[.int .i64 l[k].1.1,.string ⟨l[k].1.2.toArray⟩] 103))∧w'=qN m bo bi bn k (decide (l.length / 2<k+1)):=by
 obtain ⟨a,cap,rfl,-,F⟩:=he.opened
 obtain ⟨b,o,rfl,c0,c1,c2⟩:=F k hk
 generalize l[k]=x at *
 obtain ⟨⟨T,i⟩,J⟩:=x
 simp only at c0 c1 c2⊢
 clear F he
 go_enter Tryz.func134,Tryz.ntmps134
 go_wp2
 have g1:(k:Int)<l.length:=by omega
 have g0:(0:Int)≤k:=by omega
 have d:Below w.heap.size w (w.alloc (.cells #[.int .i64 T,.string ⟨i.toArray⟩] 103)):=(Below.refl _ w).alloc (af _) _
 have j:=fR w (.cells #[.int .i64 T,.string ⟨i.toArray⟩] 103)
 have lo:=fU y
 have G:=fU B
 have li:=fU C
 have ll:=fU q
 have lb:=fU c0
 have M:=(d.cell (p:=⟨bo,0,none⟩) lo).trans y
 have N:=(d.cell (p:=⟨bn,0,none⟩) G).trans B
 have O:=(d.cell (p:=⟨bi,0,none⟩) li).trans C
 have Q:=(d.cell (p:=⟨bl,0,none⟩) ll).trans q
 have d0:=(d.cell (p:=⟨b,o+k*3,none⟩) lb).trans c0
 have d1:=(d.cell (p:=⟨b,o+k*3+1,none⟩) lb).trans c1
 have d2:=(d.cell (p:=⟨b,o+k*3+2,none⟩) lb).trans c2
 have R:(w.alloc (.cells #[.int .i64 T,.string ⟨i.toArray⟩] 103)).frozen? ⟨bo,0,none⟩=false:=by
  rw [←fo];exact cT (a:=⟨bo,0,none⟩) (d.block bo lo)
 have S:(w.alloc (.cells #[.int .i64 T,.string ⟨i.toArray⟩] 103)).frozen? ⟨bn,0,none⟩=false:=by
  rw [←fn];exact cT (a:=⟨bn,0,none⟩) (d.block bn G)
 have U:(w.alloc (.cells #[.int .i64 T,.string ⟨i.toArray⟩] 103)).frozen? ⟨bi,0,none⟩=false:=by
  rw [←D];exact cT (a:=⟨bi,0,none⟩) (d.block bi li)
 have W:=ae _ _ 0 _ _ _ j
 have X:=ae _ _ 1 _ _ _ j
 generalize s:w.alloc (.cells #[.int .i64 T,.string ⟨i.toArray⟩] 103)=m at *
 have u:Hid (m=w.alloc (.cells #[.int .i64 T,.string ⟨i.toArray⟩] 103)):=ab s.symm
 clear s
 clear d j y B C q c0 c1 c2 fo fn D
 have hq:=fun w=>Eu T i J w
 refine wp_region_still_tail 24 (by kernel_rfl) (by kernel_rfl) ?_
 simp only [bA,cd,fj,cy]
 repeat still_step
 refine wpStill_nil ?_
 have V:wrap64 ((k:Int)+1)=(k:Int)+1:=IntWalk.wrap64_in _ (by omega)
 cases hd:decide (l.length / 2<k+1) with
 | true =>
  have I:(l.length:Int) / 2<(k:Int)+1:=by have:=dE hd;omega
  have r:=ab hd
  clear hd
  go_wp2
  go_ret
  exact ⟨by rw [r.out];rfl,m,u,by rw [r.out];rfl⟩
 | false =>
  have I:¬(l.length:Int) / 2<(k:Int)+1:=by have:=of_decide_eq_false hd;omega
  have r:=ab hd
  clear hd
  go_wp2
  go_ret
  exact ⟨by rw [r.out];rfl,m,u,by rw [r.out];rfl⟩
end Go.Proofs.YtkkfmkhbdoeglabGreatDoor
namespace Go.Proofs.YtkkfmkhbdoeglabGreatDoor
open Go.RowKit Go.Shelf
theorem mY {X:World} {a b:Nat} {t t':TypeId} {u d:Value} (h:Boxed X a t u) (k:Boxed X b t' d) (i:t≠t'):a≠b:=by
 rintro rfl
 have:=(show X.heap[a]?=_ from h).symm.trans k
 cases this
 exact i rfl
structure iK (w:World) (bo bn bi bl D:Nat) (v:Value) (S:List E) (vo vn vi:Value) (X:World):Prop where
 ok:Boxed X bo 4 vo
 no:Boxed X bn 4 vn
 n:Boxed X bi 3 vi
 l:Boxed X bl 23 v
 row:X.ownsRow w.heap.size 101 3 v S.length (entCells S)
 defer:X.heap[D]?=some (.deferred (some []))
 below:Below w.heap.size w X
 ne:bo≠bn
 lo:w.heap.size≤bo∧w.heap.size≤bn∧w.heap.size≤bi
section
variable {w:World} {bo bn bi bl D:Nat} {v:Value} {S:List E} {vo vn vi:Value} {A B:World}
theorem iK.grown (h:iK w bo bn bi bl D v S vo vn vi A) (b:A.grownBy B none):iK w bo bn bi bl D v S vo vn vi B :=
 ⟨h.ok.kept b (by simp),h.no.kept b (by simp),h.n.kept b (by simp),h.l.kept b (by simp),h.row.kept b (by
  rcases h.row.2 with ⟨rfl,_⟩ | ⟨g,cap,cur,rfl,_⟩
  ·exact .inl rfl
  ·exact .inr (by simp [Value.ownBlock])),(b.block D (fO h.defer) (by simp)).trans h.defer,h.below.grown b h.below.size (fun k e=>by cases e),h.ne,h.lo⟩
theorem iK.IM {t:TypeId} {u:Value} {b:Nat} (h:iK w bo bn bi bl D v S vo vn vi A) (d:Boxed A b t u):D≠b:=by
 rintro rfl
 have:=h.defer.symm.trans d
 cases this
theorem iK.JD (h:iK w bo bn bi bl D v S vo vn vi A) (u:Value):iK w bo bn bi bl D v S u vn vi (A.setCell ⟨bo,0,none⟩ u):=by
 have b:=grownBy_setCell' A bo u
 exact ⟨h.ok.set u,h.no.kept b (by simpa using h.ne.symm),h.n.kept b (by simpa using mY h.n h.ok (by decide)),h.l.kept b (by simpa using mY h.l h.ok (by decide)),
  h.row.kept b (.inr (h.ok.not_row (by decide) h.row).symm),(Below.heap_setCell _ _ _ D (h.IM h.ok)).trans h.defer,h.below.setCell (p:=⟨bo,0,none⟩) h.lo.1 u,h.ne,h.lo⟩
theorem iK.JC (h:iK w bo bn bi bl D v S vo vn vi A) (u:Value):iK w bo bn bi bl D v S vo u vi (A.setCell ⟨bn,0,none⟩ u):=by
 have b:=grownBy_setCell' A bn u
 exact ⟨h.ok.kept b (by simpa using h.ne),h.no.set u,h.n.kept b (by simpa using mY h.n h.no (by decide)),h.l.kept b (by simpa using mY h.l h.no (by decide)),
  h.row.kept b (.inr (h.no.not_row (by decide) h.row).symm),(Below.heap_setCell _ _ _ D (h.IM h.no)).trans h.defer,h.below.setCell (p:=⟨bn,0,none⟩) h.lo.2.1 u,h.ne,h.lo⟩
theorem iK.I0 (h:iK w bo bn bi bl D v S vo vn vi A) (u:Value):iK w bo bn bi bl D v S vo vn u (A.setCell ⟨bi,0,none⟩ u):=by
 have b:=grownBy_setCell' A bi u
 exact ⟨h.ok.kept b (by simpa using mY h.ok h.n (by decide)),h.no.kept b (by simpa using mY h.no h.n (by decide)),h.n.set u,h.l.kept b (by simpa using mY h.l h.n (by decide)),
  h.row.kept b (.inr (h.n.not_row (by decide) h.row).symm),(Below.heap_setCell _ _ _ D (h.IM h.n)).trans h.defer,h.below.setCell (p:=⟨bi,0,none⟩) h.lo.2.2 u,h.ne,h.lo⟩
end
theorem ui {X:World} {base:Nat} {v:Value} {S:List E} (h:X.ownsRow base 101 3 v S.length (entCells S)):iJ X v S:=by
 obtain ⟨hl,⟨rfl,m⟩ | ⟨g,cap,cur,rfl,r,d,o,hc,q,j⟩⟩:=h
 ·obtain rfl:S=[]:=bK m
  exact fW.nil X none 3 0
 ·refine ⟨hl,_,cap,rfl,o,fun i b=>⟨g,0,rfl,?_⟩⟩
  have l:i<S.length*3:=by rw [hl] at b;exact b
  rw [bG,ae X g i cur _ _ d,←Array.getElem?_toList,←ay b,←j,bp l]
theorem C9 {X:World} {base:Nat} {v:Value} {n:Nat} {xs:List Value} (h:X.ownsRow base 101 3 v n xs):∀ k,v.ownBlock=some k→base≤k:=by
 obtain ⟨hl,⟨rfl,l⟩ | ⟨g,cap,cur,rfl,b,d,m,hc,i,j⟩⟩:=h
 ·intro k e;simp [Value.ownBlock] at e
 ·intro k e
  cases e
  exact b
theorem sI (X:World) (o:Obj) (bo bi bn k:Nat) (b:Bool) (j:Nat) (d:j<X.heap.size) (h1:j≠bo) (h2:j≠bi) (h3:j≠bn):(qN (X.alloc o) bo bi bn k b).heap[j]?=X.heap[j]?:=by
 unfold qN
 rw [Below.heap_setCell _ _ _ j h3,Below.heap_setCell _ _ _ j h2,Below.heap_setCell _ _ _ j h1]
 exact ((Below.refl X.heap.size X).alloc (af _) o).block j d
theorem zp (X:World) (o:Obj) (bo bi bn k:Nat) (b:Bool):(qN (X.alloc o) bo bi bn k b).heap.size=X.heap.size+1:=by
 unfold qN
 rw [size_setCell,size_setCell,size_setCell]
 exact aw X o
theorem iK.call {w:World} {bo bn bi bl D:Nat} {v:Value} {S pre:List E} {x:E} {X:World} {i q r:Nat} (h:iK w bo bn bi bl D v S (.bool true) (.bool false) (.int .i64 (pre.length:Int)) X) (m:pre++[x] <+: S) (o:S.length≤1000000000)
  (h1:i<w.heap.size) (h2:q<w.heap.size) (h3:r<w.heap.size) :
  Calls Tryz.prog 134 (#[kV x.1,.string ⟨x.2.toArray⟩]++#[.pointer (some ⟨bo,0,none⟩),.pointer (some ⟨bn,0,none⟩),.pointer (some ⟨bi,0,none⟩),.pointer (some ⟨bl,0,none⟩)]) X fun e W' =>
   (e = .returned (.bool true)∧iK w bo bn bi bl D v S (.bool true) (.bool false) (.int .i64 ((pre++[x]).length:Int)) W'∧gU i q r X W')∨
   (e = .returned (.bool false)∧∃ vn vi,iK w bo bn bi bl D v S (.bool true) vn vi W'):=by
 have hk:pre.length<S.length:=by have:=m.length_le;simp at this;omega
 have s:S[pre.length]=x:=by
  obtain ⟨t,rfl⟩:=m
  simp
 have H:=AO bo bn bi bl pre.length v S X h.ok.cell h.no.cell h.n.cell h.l.cell h.ok.frozen h.no.frozen h.n.frozen (ui h.row) hk o h.ne (mY h.ok h.n (by decide)) (mY h.ok h.l (by decide)) (mY h.no h.n (by decide)) (mY h.no h.l (by decide)) (mY h.n h.l (by decide))
 rw [s] at H
 refine H.mono ?_
 rintro e W' ⟨rfl,C,⟨rfl⟩,rfl⟩
 have hl:=((h.grown (dH X (.cells #[.int .i64 x.1.1,.string ⟨x.1.2.toArray⟩] 103) none)).grown (B:=(X.alloc (.cells #[.int .i64 x.1.1,.string ⟨x.1.2.toArray⟩] 103)).drew) ⟨rfl,rfl,rfl,af _,fun _ _ _=>rfl⟩)
 have hl:=((hl.JD (.bool true)).I0 (.int .i64 ((pre.length+1:Nat):Int))).JC (.bool (decide (S.length / 2<pre.length+1)))
 have u:=h.lo
 have y:=h.below.size
 have d:gU i q r X (qN (X.alloc (.cells #[.int .i64 x.1.1,.string ⟨x.1.2.toArray⟩] 103)) bo bi bn pre.length (decide (S.length / 2<pre.length+1))):=by
  refine ⟨aH (dK _) (Nat.le_of_eq (zp X _ bo bi bn _ _).symm),fun j b => ?_,fun j cs fz b => ?_⟩
  ·exact sI X _ bo bi bn _ _ j (by rcases b with rfl | rfl | rfl <;> omega) (by rcases b with rfl | rfl | rfl <;> omega) (by rcases b with rfl | rfl | rfl <;> omega) (by rcases b with rfl | rfl | rfl <;> omega)
  ·refine (sI X _ bo bi bn _ _ j (fO b) ?_ ?_ ?_).trans b
   ·rintro rfl;have:=b.symm.trans h.ok;cases this
   ·rintro rfl;have:=b.symm.trans h.n;cases this
   ·rintro rfl;have:=b.symm.trans h.no;cases this
 cases hd:decide (S.length / 2<pre.length+1) with
 | true=>exact .inr ⟨rfl,_,_,by rw [hd] at hl;exact hl⟩
 | false=>exact .inl ⟨rfl,by rw [hd] at hl;rw [aq];exact hl,by rw [hd] at d;exact d⟩
end Go.Proofs.YtkkfmkhbdoeglabGreatDoor
namespace Go.Proofs.YtkkfmkhbdoeglabGreatDoor
open Go.RowKit Go.Shelf
attribute [local go_sem] Oper.semAt_some
theorem EG:(Tryz.prog.info? 101).map (fun i=>(i.zero,i.size,i.bytes))=some (some (.agg #[.int .i64 0,.string ⟨#[]⟩,.string ⟨#[]⟩]),3,40):=by kernel_rfl
theorem vJ (w:World) (x y z:Value) (t:TypeId):∀ j u,[x,y,z][j]?=some u→(w.alloc (.cells #[x,y,z] t)).cell? ((⟨w.heap.size,0,none⟩:Addr).add j)=some u:=by
 intro j u b
 have:=ae (w.alloc (.cells #[x,y,z] t)) w.heap.size j _ _ _ (fR w (.cells #[x,y,z] t))
 match j,b with
 | 0,b=>simp at b;subst b;simp [Addr.add,this]
 | 1,b=>simp at b;subst b;simp [Addr.add,this]
 | 2,b=>simp at b;subst b;simp [Addr.add,this]
 | j+3,b=>simp at b
theorem yI {W:World} {base B:Nat} {t e t':TypeId} {k m:Nat} {v v':Value} {xs:List Value} (i:Boxed W B t v) (l:W.ownsRow base e m v k xs) {o:Obj} {w1:World} (q:(W.alloc o).grownBy w1 v.ownBlock) (r:t≠t') (he:e≠t') {j:Nat} {cs:Array Value} {fz:Nat×Nat} (h:W.heap[j]?=some (.cells cs t' fz)) :
  (w1.setCell ⟨B,0,none⟩ v').heap[j]?=some (.cells cs t' fz):=by
 have h1:(W.alloc o).heap[j]?=some (.cells cs t' fz):=fX W o h
 have b:some j≠v.ownBlock:=by
  rcases l.2 with ⟨rfl,_⟩ | ⟨g,cap,cur,rfl,_,d,_⟩
  ·simp [Value.ownBlock]
  ·intro s
   obtain rfl:j=g:=by simpa [Value.ownBlock] using s
   rw [d] at h
   cases h
   exact he rfl
 have u:j≠B:=by
  rintro rfl
  have:=(show W.heap[j]?=_ from i).symm.trans h
  cases this
  exact r rfl
 rw [Below.heap_setCell _ ⟨B,0,none⟩ _ j u,q.block j (fO h1) b,h1]
theorem xO {W:World} {base B:Nat} {t e:TypeId} {k m:Nat} {v:Value} {xs:List Value} (b:Boxed W B t v) (d:W.ownsRow base e m v k xs) (i:t≠103) (he:e≠103) :
  ∀ (o:Obj) (w1:World) (v':Value),(W.alloc o).grownBy w1 v.ownBlock→∀ (j:Nat) (cs:Array Value) (fz:Nat×Nat),W.heap[j]?=some (Obj.cells cs 103 fz)→(w1.setCell ⟨B,0,none⟩ v').heap[j]?=some (Obj.cells cs 103 fz) :=
 fun _ _ _ l _ _ _ h=>yI b d l i he h
theorem FE {W:World} {base B b:Nat} {t t2 e:TypeId} {k m:Nat} {v u:Value} {xs:List Value} (h2:Boxed W b t2 u) (d:Boxed W B t v) (i:W.ownsRow base e m v k xs) {o:Obj} {w1:World} (j:(W.alloc o).grownBy w1 v.ownBlock) (v':Value) (l:t≠t2) (he:e≠t2) (_hB:b≠B):Boxed (w1.setCell ⟨B,0,none⟩ v') b t2 u :=
 yI d i j l he h2
theorem wH (i q off r:Nat) (S:List E) (w:World) (J:i<w.heap.size) (hm:w.cell? ⟨i,0,none⟩=some (.pointer (some ⟨q,off,none⟩))) (he:EntAt w q off r S) (hS:S.length≤1000000000) :
  Calls Tryz.prog 96 #[.func (.func 135) #[] #[.pointer (some ⟨i,0,none⟩)]] w fun e w'=>∃ v,e = .returned (.tuple #[v,.bool true])∧iJ w' v S∧(∀ k,v.ownBlock=some k→w.heap.size≤k)∧Below w.heap.size w w':=by
 obtain ⟨i0,hi,a1,a2,a3⟩:=dD EG
 refine (callsIn_wide (n:=9)).1 ?_
 refine callsIn_of_wp_marks Tryz.func96 rfl cL ?_ rfl
 try simp only [Tryz.ntmps96,dC,ar,aJ,Nat.reduceAdd,Nat.reduceSub,bf,bu,bT,dG,aO,aX]
 gi_wp2
 have bL:=(Boxed.new w 23 (.slice none 0 0)).alloc (.cells #[.bool true] 4)
 have b6:=Boxed.new (w.alloc (.cells #[.slice none 0 0] 23)) 4 (.bool true)
 rw [aw] at b6
 have M:Below w.heap.size w ((w.alloc (.cells #[.slice none 0 0] 23)).alloc (.cells #[.bool true] 4)):=((Below.refl _ w).alloc (af _) _).alloc (by simp) _
 have a5:((w.alloc (.cells #[.slice none 0 0] 23)).alloc (.cells #[.bool true] 4)).heap.size=w.heap.size+2:=by simp
 obtain ⟨W0,U⟩:∃ W0,(w.alloc (.cells #[.slice none 0 0] 23)).alloc (.cells #[.bool true] 4)=W0:=⟨_,rfl⟩
 rw [U] at bL b6 M a5⊢
 clear U
 have hmx:maxLen=9223372036854775807:=rfl
 have hq:=he.lt
 have hr:=he.tab.lt
 refine wpIn_rangeFunc_ownH rfl (by omega) (gf:=135) (lb:=#[.pointer (some ⟨i,0,none⟩)]) rfl cL (enters_of Tryz.func135 (by kernel_rfl) rfl)
  (xC (9-1) i q off r S w J hm he hS) (fun h k=>gU.trans h k)
  (fun W l o o' hl y hc _=>⟨by simp,(fun k hk=>World.putObj_heap_other (by rcases hk with rfl | rfl | rfl <;> omega)),(fun k cs fz hk=>(World.putObj_heap_other (fun e=>by subst e;rw [hk] at y;cases y;cases hc)).trans hk)⟩) M (fun _=>rfl)
  (fun pre W=>((∃ v,Boxed W w.heap.size 23 v∧W.ownsRow w.heap.size 101 3 v pre.length (entCells pre)∧True)∧Boxed W (w.heap.size+1) 4 (.bool true))∧Below w.heap.size w W)
  (fun _ _ _=>False)
  (OwnFrom.and (OwnFrom.and (Own.from (holdsRow_own w.heap.size w.heap.size 23 101 3 (fun pre:List E=>pre.length) entCells (fun _ _=>True)) _) (Own.from (boxed_own _ _ _) _)) (ownFrom_below (af _) (by omega)))
  (fun _ _ _ _ _ hs _ _=>hs)
  ⟨⟨⟨_,bL,World.ownsRow_nil _ _ _ _,cL⟩,b6⟩,M⟩
  (fun x a' W=>∃ m,w.heap.size+1<m∧W.heap[m]?=some (.cells #[.int .i64 x.1.1,.string ⟨x.1.2.toArray⟩] 103 (0,0))∧a' = {tmps:=#[.func (.func 135) #[] #[.pointer (some ⟨i,0,none⟩)],undef,.slice none 0 0,.bool false,.pointer (some ⟨w.heap.size,0,none⟩),.pointer (some ⟨w.heap.size+1,0,none⟩),.pointer (some ⟨m,0,none⟩),.string ⟨x.2.toArray⟩,undef,undef,.func (.func 135) #[] #[.pointer (some ⟨i,0,none⟩)],.agg #[.int .i64 x.1.1,.string ⟨x.1.2.toArray⟩],.string ⟨x.2.toArray⟩,undef,undef,undef,undef,undef,undef,undef,undef,undef,undef,undef,undef,undef,undef],defers:=[]})
  (fun x a' _ X Y row hs hg hr=>by
   obtain ⟨m,h1,h2,h3⟩:=hs
   exact ⟨m,h1,(hg.block m (fO h2) (fun e=>by obtain ⟨-,o,y,hc⟩:=hr m e.symm;rw [h2] at y;cases y;cases hc)).trans h2,h3⟩)
  ?assign ?body ?done ?stop
 case assign =>
  rintro l pre x W K ⟨⟨⟨v1,a7,a9,-⟩,d⟩,u⟩ hK
  unfold kV jh
  gi_wp2
  exact hK _ _ ((KeepsOthers.alloc _ _).from _) (gU.gD ((Below.refl _ W).alloc (af _) _) (by have:=u.size;omega) (by have:=u.size;omega) (by have:=u.size;omega)) ⟨⟨⟨v1,a7.alloc _,a9.alloc _,cL⟩,d.alloc _⟩,u.alloc u.size _⟩ ⟨W.heap.size,d.lt,fR W _,rfl⟩
 case body =>
  rintro l pre ⟨⟨kt,kb⟩,vb⟩ a' W hl ⟨rr,bM⟩ ⟨⟨⟨v,C,b,-⟩,d⟩,G⟩ ⟨m,bN,b7,rfl⟩ bO
  have hc:=C.cell
  have x0:=ae _ _ 0 _ _ _ b7
  have x1:=ae _ _ 1 _ _ _ b7
  have V:=G.size
  have Q:=xO C b (by decide) (by decide)
  gi_wp2_with (gi_at_builtin;refine wpListIn_append_own _ rfl _ _ 23 rfl w.heap.size 101 i0 (.agg #[.int .i64 0,.string ⟨#[]⟩,.string ⟨#[]⟩]) 3 40 Tryz.underlying23 hi a1 a2 a3 rfl (by decide) _ _ _ rfl (b.alloc _) ⟨W.heap.size,0,none⟩ 1 1 [.int .i64 kt,.string ⟨kb.toArray⟩,.string ⟨vb.toArray⟩] rfl rfl (vJ _ _ _ _ _) (by simp [Value.oneCell']) (by omega) (by omega) (by simp;omega) ?_;intro v' w1 F j _;obtain ⟨g',cap',rfl⟩:=ownsRow_succ F;obtain ⟨Z,bc,be,aa,ag⟩:=C.appended (by decide) b G.size (af _) F j;have bi:=Q _ _ (.slice (some ⟨g',0,none⟩) (pre.length+1) cap') j;have bk:=FE d C b j (.slice (some ⟨g',0,none⟩) (pre.length+1) cap') (by decide) (by decide) (by omega);have bP:=Z.cell;have bS:=Z.frozen)
  exact ⟨aa.from _,⟨aa.size,(fun k hk=>ag.block k (by rcases hk with rfl | rfl | rfl <;> omega)),bi⟩,⟨⟨_,bc,by rw [xA];simpa using be⟩,bk⟩,G.trans ag⟩
 case done =>
  rintro D I W hD rfl ⟨⟨⟨v,C,b,-⟩,d⟩,G⟩ hK
  have hc:=C.cell
  have y:=d.cell
  have V:=G.size
  have bX:=d.lt
  have N:Below w.heap.size w ((W.alloc (.cells #[.int .i64 0] 3)).alloc (.cells #[.bool false] 4)):=(G.alloc V _).alloc (by simp;omega) _
  have bI:=(Boxed.new W 3 (.int .i64 0)).alloc (.cells #[.bool false] 4)
  have b8:=Boxed.new (W.alloc (.cells #[.int .i64 0] 3)) 4 (.bool false)
  rw [aw] at b8
  have LV:Hid (iK w (w.heap.size+1) (W.heap.size+1) W.heap.size w.heap.size D v I (.bool true) (.bool false) (.int .i64 ((([]:List E).length:Nat):Int)) ((W.alloc (.cells #[.int .i64 0] 3)).alloc (.cells #[.bool false] 4))) :=
   ab ⟨(d.alloc _).alloc _,b8,bI,(C.alloc _).alloc _,(b.alloc _).alloc _,(by rw [fX _ _ (fX W _ hK)]),N,by omega,by omega,by omega,by omega⟩
  have HE:=ab (he.below N)
  have HM:=ab ((N.cell (p:=⟨i,0,none⟩) J).trans hm)
  have b0:((W.alloc (.cells #[.int .i64 0] 3)).alloc (.cells #[.bool false] 4)).heap.size=W.heap.size+2:=by simp
  clear hc y he hm
  gi_wp2_with fail
  generalize bs:(W.alloc (.cells #[.int .i64 0] 3)).alloc (.cells #[.bool false] 4)=W2 at *
  clear bs
  have HC:=xB 134 #[.pointer (some ⟨w.heap.size+1,0,none⟩),.pointer (some ⟨W.heap.size+1,0,none⟩),.pointer (some ⟨W.heap.size,0,none⟩),.pointer (some ⟨w.heap.size,0,none⟩)] (enters_of Tryz.func134 (by kernel_rfl) rfl) i q off r I
   (fun pre X=>iK w (w.heap.size+1) (W.heap.size+1) W.heap.size w.heap.size D v I (.bool true) (.bool false) (.int .i64 (pre.length:Int)) X)
   (fun pre X=>∃ vn vi,iK w (w.heap.size+1) (W.heap.size+1) W.heap.size w.heap.size D v I (.bool true) vn vi X)
   (fun s A B h hg=>h.grown hg) (fun pre x W1 h hp=>h.call hp hS J hq hr) W2 (by omega) HM.out HE.out hS LV.out
  refine ⟨cL,callsIn_wide.2 (HC.mono ?_)⟩
  rintro e W3 ⟨⟨v',rfl⟩,hJ⟩
  obtain ⟨vn,vi,R⟩:∃ vn vi,iK w (w.heap.size+1) (W.heap.size+1) W.heap.size w.heap.size D v I (.bool true) vn vi W3:=by
   rcases hJ with h | ⟨pre,-,h⟩
   ·exact ⟨_,_,h⟩
   ·exact h
  clear hJ LV HE HM HC
  have c1:=R.l.cell
  have c2:=R.ok.cell
  have O:=R.defer
  gi_wp2_with fail
  gi_region
  have L4:iK w (w.heap.size+1) (W.heap.size+1) W.heap.size w.heap.size D v I (.bool true) vn vi W3.drew:=R.grown ⟨rfl,rfl,rfl,af _,fun _ _ _=>rfl⟩
  gi_wp2_with fail
  refine ⟨by simp,.inl ⟨_,_,rfl,run_takeDeferred O,?_⟩⟩
  exact ⟨_,results_tmp2 rfl _ _ _,v,rfl,ui (ownsRow_putObj L4.row _ O rfl),C9 L4.row,L4.below.trans (belowK_b (w:=w) (af _) W3.drew D _ _ (by omega) O rfl rfl)⟩
 case stop =>
  rintro D c pre W _ _ h _
  exact h.elim
end Go.Proofs.YtkkfmkhbdoeglabGreatDoor
