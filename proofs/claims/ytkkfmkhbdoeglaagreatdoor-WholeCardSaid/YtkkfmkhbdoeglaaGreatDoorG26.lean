/- A part of what is proved here: lemmas and contracts of single functions. No condition but those that each names. -/
import Derived.Test.YtkkfmkhbdoeglaaGreatDoorG00
import Derived.Test.YtkkfmkhbdoeglaaGreatDoorG25
set_option maxHeartbeats 4000000
set_option maxRecDepth 100000
namespace Go.Proofs.YtkkfmkhbdoeglaaGreatDoor
open Go.RowKit Go.Shelf
attribute [local go_sem] Oper.semAt_some
theorem FA (h : Nat) (w : World) : (nilAhead 433 189 (.agg #[.pointer (some ⟨h, 0, none⟩)]) "Dump").run Tryz.prog w = .ok (some false) w := by kernel_rfl
theorem Ap (h : Nat) (w : World) : (method 433 189 (.agg #[.pointer (some ⟨h, 0, none⟩)]) "Dump").run Tryz.prog w = .ok (205, .agg #[.pointer (some ⟨h, 0, none⟩)]) w := by kernel_rfl
theorem Fz (h : Nat) (w : World) : (nilAhead 433 189 (.agg #[.pointer (some ⟨h, 0, none⟩)]) "Drop").run Tryz.prog w = .ok (some false) w := by kernel_rfl
theorem Ao (h : Nat) (w : World) : (method 433 189 (.agg #[.pointer (some ⟨h, 0, none⟩)]) "Drop").run Tryz.prog w = .ok (204, .agg #[.pointer (some ⟨h, 0, none⟩)]) w := by kernel_rfl
theorem GX (h : Nat) (w : World) : (nilAhead 433 189 (.agg #[.pointer (some ⟨h, 0, none⟩)]) "Put").run Tryz.prog w = .ok (some false) w := by kernel_rfl
theorem Ct (h : Nat) (w : World) : (method 433 189 (.agg #[.pointer (some ⟨h, 0, none⟩)]) "Put").run Tryz.prog w = .ok (206, .agg #[.pointer (some ⟨h, 0, none⟩)]) w := by kernel_rfl
def gQ (l:List E):List E:=l.foldl (fun S x=>jJ x.1 x.2 S) []
theorem vN (l:List E) (x:E):gQ (l++[x])=jJ x.1 x.2 (gQ l):=by simp [gQ]
structure l7 (w:World) (base h:Nat) (x:HV) (d:DpS) (wr:World):Prop where
 at_:∃ lv,DpAt wr base h {x with left:=d.left,dead:=d.dead,log:=lv} d∧(∀ i,lv.ownBlock=some i→x.log.ownBlock=some i∨w.heap.size≤i)
 ext:Ext (fun i=>i=h∨i=x.r∨x.log.ownBlock=some i) w wr
def Aside (r:Nat) (j:Nat) (o:Obj):Prop:=(∀ C fz,o≠.cells C 9 fz)∧(∀ C fz,o≠.cells C 87 fz)∧(∀ es cl,o = .map es cl→j≠r)
theorem l7.start {w:World} {base h:Nat} {x:HV} {d:DpS} (hd:DpAt w base h x d):l7 w base h x d w:=by
 refine ⟨⟨x.log,?_,fun i e => .inl e⟩,Ext.refl _ _⟩
 have e:({x with left:=d.left,dead:=d.dead,log:=x.log} : HV)=x:=by
  rw [←hd.left,←hd.dead]
 rw [e]
 exact hd
theorem DpAt.below {w w':World} {base h:Nat} {x:HV} {d:DpS} (hd:DpAt w base h x d) (i:Below w.heap.size w w'):DpAt w' base h x d :=
 ⟨hd.row.fW (i.block _ hd.row.lt),hd.left,hd.dead,hd.room,hd.tab.fW (i.block _ hd.tab.lt),hd.own.below i,hd.ltyp.frame fun b _ j=>i.block b j,hd.lo,hd.lb⟩
theorem l7.below {w wr w':World} {base h:Nat} {x:HV} {d:DpS} (hd:l7 w base h x d wr) (b:Below wr.heap.size wr w'):l7 w base h x d w':=by
 obtain ⟨⟨lv,h1,h2⟩,h3⟩:=hd
 exact ⟨⟨lv,h1.below b,h2⟩,h3.trans (Ext.fM b)⟩
theorem l7.step {w wr w':World} {base h:Nat} {x:HV} {d d':DpS} {lv:Value} (h2:∀ i,lv.ownBlock=some i→x.log.ownBlock=some i∨w.heap.size≤i) (h1:DpAt wr base h {x with left:=d.left,dead:=d.dead,log:=lv} d) (h3:Ext (fun i=>i=h∨i=x.r∨x.log.ownBlock=some i) w wr) {e:Ending}
  (y:Bn base h {x with left:=d.left,dead:=d.dead,log:=lv} d' wr e w'):l7 w base h x d' w'∧(∀ (j:Nat) (o:Obj),wr.heap[j]?=some o→Aside x.r j o→w'.heap[j]?=some o)∧wr.heap.size≤w'.heap.size:=by
 obtain ⟨-,m,hd,l,hl⟩:=y
 refine ⟨⟨⟨m,hd,fun i e => ?_⟩,h3.trans' l fun i B => ?_⟩,fun j o b D => ?_,l.size⟩
 ·rcases hl i e with e | e
  ·exact h2 i e
  ·exact .inr (aI h3.size e)
 ·rcases B with e | e | e
  ·exact .inl (.inl e)
  ·exact .inl (.inr (.inl e))
  ·exact (h2 i e).imp (fun e => .inr (.inr e)) id
 ·refine (l.block j (fI b) fun E => ?_).trans b
  obtain ⟨a1,a2,a3⟩:=D
  rcases E with e | e | e
  ·have q:wr.heap[h]?=_:=h1.row
   rw [←e,b] at q
   exact a2 _ _ (Option.some.inj q)
  ·obtain ⟨-,L,⟨es,cl,hm,-⟩,-⟩:=h1.tab
   have s:j=x.r:=e
   rw [show ({x with left:=d.left,dead:=d.dead,log:=lv} : HV).r=x.r from rfl,←s,b] at hm
   exact a3 _ _ (Option.some.inj hm) s
  ·obtain ⟨C,fz,u⟩:=h1.ltyp j e
   rw [b] at u
   exact a1 _ _ (Option.some.inj u)
theorem kj {r j:Nat} {C:Array Value} {t:TypeId} {fz:Nat×Nat} (h1:t≠9) (h2:t≠87):Aside r j (.cells C t fz) :=
 ⟨fun d b e=>h1 (by cases e;rfl),fun d b e=>h2 (by cases e;rfl),fun es cl e=>by cases e⟩
theorem TabAt.aside {w w':World} {b r:Nat} {S:List E} (h:TabAt w r S) (d:r≠b) (hk:∀ (j:Nat) (o:Obj),w.heap[j]?=some o→Aside b j o→w'.heap[j]?=some o):TabAt w' r S:=by
 have i:=h
 obtain ⟨-,L,⟨es,cl,hm,-⟩,-⟩:=i
 exact h.fW ((hk r _ hm ⟨(fun _ _ e=>by cases e),(fun _ _ e=>by cases e),fun _ _ _=>d⟩).trans hm.symm)
theorem lM.aside {w w':World} {d:Nat} {v:Value} {l:List K} (h:lM w v l) (hk:∀ (j:Nat) (o:Obj),w.heap[j]?=some o→Aside d j o→w'.heap[j]?=some o):lM w' v l:=by
 obtain ⟨h1,h2⟩:=h
 refine ⟨h1.frame fun b i _ => ?_,fun g m => ?_⟩
 ·obtain ⟨cs,fz,h⟩:=h2 b i
  rw [h,hk b _ h (kj (by decide) (by decide))]
 ·obtain ⟨cs,fz,h⟩:=h2 g m
  exact ⟨cs,fz,hk g _ h (kj (by decide) (by decide))⟩
structure lK (w:World) (h D:Nat) (S0:List E) (wr:World):Prop where
 tab:TabAt wr (w.heap.size+1) S0
 boxH:Boxed wr (w.heap.size+2) 107 (.map (some (w.heap.size+1)))
 boxP:Boxed wr w.heap.size 112 (.iface 189 (.agg #[.pointer (some ⟨h,0,none⟩)]))
 defer:wr.heap[D]?=some (.deferred (some []))
theorem lK.below {w wr w':World} {h D:Nat} {S0:List E} (hk:lK w h D S0 wr) (b:Below wr.heap.size wr w'):lK w h D S0 w' :=
 ⟨hk.tab.fW (b.block _ hk.tab.lt),(b.block _ hk.boxH.lt).trans hk.boxH,(b.block _ hk.boxP.lt).trans hk.boxP,(b.block _ (fI hk.defer)).trans hk.defer⟩
theorem lK.aside {w wr w':World} {h D r:Nat} {S0:List E} (hk:lK w h D S0 wr) (b:r<w.heap.size) (ha:∀ (j:Nat) (o:Obj),wr.heap[j]?=some o→Aside r j o→w'.heap[j]?=some o):lK w h D S0 w' :=
 ⟨hk.tab.aside (by omega) ha,ha _ _ hk.boxH (kj (by decide) (by decide)),ha _ _ hk.boxP (kj (by decide) (by decide)),ha _ _ hk.defer ⟨(fun _ _ e=>by cases e),(fun _ _ e=>by cases e),(fun _ _ e=>by cases e)⟩⟩
theorem EntAt.ext {w w':World} {P:Nat→Prop} {q off r:Nat} {S:List E} (h:EntAt w q off r S) (b:Ext P w w') (hq:¬P q) (d:¬P r):EntAt w' q off r S :=
 ⟨b.cell hq h.cell,h.tab.fW (b.block r h.tab.lt d)⟩
theorem ud (k:K) (v:List UInt8) (S:List E) (b:SortedE S):(jJ k v S).length≤S.length+1:=by
 have:=qb (m:=(k,v)::S) (sorted_put k v b).nodup fun x d=>by
  rcases (jn k v S x).1 d with rfl | ⟨h,-⟩
  ·exact ck
  ·exact aT _ h
 simpa using this
theorem yB (k:K) (S:List E):(nQ k S).length≤S.length:=dr _ _
theorem DpS.EA {d:DpS} (o:ry) (b:SortedE d.S):SortedE (d.step o).S∧(d.step o).S.length≤d.S.length+1∧(d.step o).log.length≤d.log.length+2:=by
 obtain ⟨k,v⟩:=o
 cases v with
 | none =>
  unfold DpS.step DpS.drop
  simp only
  split
  ·exact ⟨b,dR _,ei _ _⟩
  ·exact ⟨lI k b,eM (yB k d.S),by simp⟩
 | some v =>
  unfold DpS.step DpS.put
  simp only
  split
  ·exact ⟨b,dR _,ei _ _⟩
  ·split
   ·exact ⟨sorted_put k v b,ud k v d.S b,by simp⟩
   ·exact ⟨b,dR _,by simp⟩
theorem DpS.sD:∀ {d:DpS} (os:List ry),SortedE d.S→SortedE (d.run os).S∧(d.run os).S.length≤d.S.length+os.length∧(d.run os).log.length≤d.log.length+2*os.length
 | d,[],h=>⟨h,ah _,ah _⟩
 | d,o::os,h=>by
  obtain ⟨h1,h2,h3⟩:=DpS.EA o h
  obtain ⟨g1,g2,g3⟩:=DpS.sD (d:=d.step o) os h1
  have e:d.run (o::os)=(d.step o).run os:=rfl
  rw [e,au]
  exact ⟨g1,by omega,by omega⟩
def iQ (S T:List E) (k:Nat):List ry:=lU (ny (S.take k) T)
theorem vK {α:Type} {o:Option α} (h:o.isSome=true):o.isNone=false:=by cases o <;> simp_all
theorem wW {α:Type} {o:Option α} (h:o.isSome=false):o.isNone=true:=by cases o <;> simp_all
theorem yC {S T:List E} {k:Nat} (hk:k<S.length) (h:(jq S[k].1 T).isSome=true):iQ S T (k+1)=iQ S T k:=by
 unfold iQ ny
 rw [aO hk,eo,eE (by rw [vK h];decide)]
 simp
theorem BH {S T:List E} {k:Nat} (hk:k<S.length) (h:(jq S[k].1 T).isSome=false):iQ S T (k+1)=iQ S T k++[(S[k].1,none)]:=by
 unfold iQ ny
 rw [aO hk,eo,fy (by exact wW h)]
 simp [lU]
theorem pX (S T:List E) (k:Nat):(iQ S T k).length≤S.length:=by
 unfold iQ ny lU
 rw [aH]
 exact aI (dr _ _) (by rw [aA];omega)
theorem pa (l:List E):SortedE (gQ l):=by
 have key:∀ (l:List E) (S:List E),SortedE S→SortedE (l.foldl (fun S x=>jJ x.1 x.2 S) S):=by
  intro l
  induction l with
  | nil=>exact fun S h=>h
  | cons x l ih=>exact fun S h=>ih _ (sorted_put _ _ h)
 exact key l [] SortedE.nil
theorem xJ {l:List E} (b:(l.map (·.1)).Nodup) (x:E):x∈gQ l↔x∈l:=by
 have:=vR l [] x b
 have e:jL [] (kz l)=gQ l:=by
  unfold jL kz gQ
  rw [List.foldl_map]
  rfl
 rw [e] at this
 rw [this]
 simp
theorem xK {l S:List E} (b:SortedE S) (d:l.Perm S):gQ l=S:=by
 have i:(l.map (·.1)).Nodup:=(d.map (·.1)).nodup_iff.2 b.keys
 exact SortedE.ext (pa l) b fun x=>by rw [xJ i,d.mem_iff]
theorem AG {β:Type} {B r:Nat} (i:r<B) (f : β→List E):OwnFrom B (fun s W=>TabAt W r (f s)):=fun s X Y row hs d b =>
 hs.fW (d.block r hs.lt (fun e=>by obtain ⟨h1,-⟩:=b r e.symm;omega))
theorem jA {X Y:World} {row:Option Nat} {B:Nat} (d:X.grownBy Y row) (i:∀ r,row=some r→B≤r∧∃ o:Obj,X.heap[r]?=some o∧o.isCells=false) {j:Nat} {o:Obj} (b:X.heap[j]?=some o) (h:j<B∨o.isCells=true):Y.heap[j]?=some o :=
 (d.block j (fI b) fun e=>by
  obtain ⟨h1,l,h2,h3⟩:=i j e.symm
  rw [b] at h2
  cases h2
  rcases h with h | h
  ·omega
  ·rw [h] at h3;cases h3).trans b
theorem l7.vF {w X Y:World} {base h B:Nat} {x:HV} {d:DpS} {row:Option Nat} (hd:l7 w base h x d X) (l:X.grownBy Y row) (q:∀ r,row=some r→B≤r∧∃ o:Obj,X.heap[r]?=some o∧o.isCells=false) (E:w.heap.size≤B) (s:x.r<B):l7 w base h x d Y:=by
 obtain ⟨⟨lv,h1,h2⟩,h3⟩:=hd
 have m:∀ b,lv.ownBlock=some b→b<X.heap.size→Y.heap[b]?=X.heap[b]?:=fun b e F=>by
  obtain ⟨C,fz,u⟩:=h1.ltyp b e
  rw [jA l q u (.inr rfl),u]
 refine ⟨⟨lv,⟨jA l q h1.row (.inr rfl),h1.left,h1.dead,h1.room,h1.tab.fW ?_,h1.own.frame l.size m,h1.ltyp.frame m,h1.lo,h1.lb⟩,h2⟩,h3.trans' (T:=fun i=>row=some i) ⟨l.os,l.tape,l.output,l.size,fun j D y=>l.block j D fun e=>y e.symm⟩ fun i e => .inr (by have:=(q i e).1;omega)⟩
 obtain ⟨-,L,⟨es,cl,hm,-⟩,-⟩:=h1.tab
 exact (jA l q hm (.inl s)).trans hm.symm
theorem lK.vF {w X Y:World} {h D B:Nat} {S0:List E} {row:Option Nat} (hk:lK w h D S0 X) (b:X.grownBy Y row) (d:∀ r,row=some r→B≤r∧∃ o:Obj,X.heap[r]?=some o∧o.isCells=false) (j:w.heap.size+2≤B) (i:D<B):lK w h D S0 Y:=by
 refine ⟨hk.tab.fW ?_,jA b d hk.boxH (.inr rfl),jA b d hk.boxP (.inr rfl),jA b d hk.defer (.inl i)⟩
 obtain ⟨-,L,⟨es,cl,hm,-⟩,-⟩:=hk.tab
 exact (jA b d hm (.inl (by omega))).trans hm.symm
def lD (S T pre:List E):List ry:=iQ S T S.length++kz (qT S pre)
theorem AI (S T pre:List E) (x:E):lD S T (pre++[x])=if x∈S then lD S T pre else lD S T pre++[(x.1,some x.2)]:=by
 unfold lD qT kz
 rw [eo,bC,←bg]
 split
 ·rename_i h
  simp [h]
 ·rename_i h
  simp [h]
theorem CI (S T:List E):lD S T T=je S T:=by
 unfold lD iQ je
 rw [be]
theorem CJ (S T pre:List E):(lD S T pre).length≤S.length+pre.length:=by
 unfold lD
 rw [ar]
 have h1:=pX S T S.length
 have h2:(kz (qT S pre)).length≤pre.length:=by
  unfold kz qT
  rw [aH]
  exact dr _ _
 omega
theorem xz (base q off r h:Nat) (x:HV) (d:DpS) (T:List E) (w:World) (he:EntAt w q off r T) (hd:DpAt w base h x d) (hT:T.length≤100000000) (hS:d.S.length≤100000000) (hL:d.log.length≤7500000000000) (e8:∀ y∈d.S,y.1.2.length≤gx) (e9:∀ y∈T,y.1.2.length≤gx∧y.2.length≤gx) (ii:base≤w.heap.size) (fb:q≠h) (fd:x.log.ownBlock≠some q) (fg:r≠x.r) :
  Calls Tryz.prog 160 #[.pointer (some ⟨q,off,none⟩),rO h] w fun e w'=>e = .returned (.tuple #[])∧l7 w base h x (d.run (je d.S T)) w':=by
 have hm:=Ap h
 have io:=FA h
 have hn := @run_makeMap Tryz.prog
 unfold rO
 refine (callsIn_wide (n:=9)).1 ?_
 refine callsIn_of_wp_marks Tryz.func160 rfl cM ?_ rfl
 try simp only [Tryz.ntmps160,dF,au,aJ,Nat.reduceAdd,Nat.reduceSub,bd,bu,bV,dG,aQ,aX]
 gi_wp2_with fail
 refine ⟨cM,(callsIn_wide.2 (BI h _)).mono ?_⟩
 rintro e w0 ⟨rfl,rfl⟩
 gi_wp2_with fail
 have bP:=(((Boxed.new w 112 (.iface 189 (.agg #[.pointer (some ⟨h,0,none⟩)]))).alloc (.map #[] 0)).alloc (.cells #[.map (some (w.heap.size+1))] 107)).alloc (.cells #[.pointer (some ⟨h,0,none⟩)] 189)
 have tM:TabAt ((((w.alloc (.cells #[.iface 189 (.agg #[.pointer (some ⟨h,0,none⟩)])] 112)).alloc (.map #[] 0)).alloc (.cells #[.map (some (w.heap.size+1))] 107)).alloc (.cells #[.pointer (some ⟨h,0,none⟩)] 189)) (w.heap.size+1) []:=by
  have h1:=TabAt.new (w.alloc (.cells #[.iface 189 (.agg #[.pointer (some ⟨h,0,none⟩)])] 112))
  rw [ax] at h1
  exact (h1.fW (heap_alloc_old _ _ (by simp))).fW (heap_alloc_old _ _ (by simp))
 have hX:=(Boxed.new ((w.alloc (.cells #[.iface 189 (.agg #[.pointer (some ⟨h,0,none⟩)])] 112)).alloc (.map #[] 0)) 107 (.map (some (w.heap.size+1)))).alloc (.cells #[.pointer (some ⟨h,0,none⟩)] 189)
 have hY:=Boxed.new (((w.alloc (.cells #[.iface 189 (.agg #[.pointer (some ⟨h,0,none⟩)])] 112)).alloc (.map #[] 0)).alloc (.cells #[.map (some (w.heap.size+1))] 107)) 189 (.pointer (some ⟨h,0,none⟩))
 simp only [ax,aW,Nat.reduceAdd] at hX hY
 have b4:Below w.heap.size w ((((w.alloc (.cells #[.iface 189 (.agg #[.pointer (some ⟨h,0,none⟩)])] 112)).alloc (.map #[] 0)).alloc (.cells #[.map (some (w.heap.size+1))] 107)).alloc (.cells #[.pointer (some ⟨h,0,none⟩)] 189)):=((((Below.refl _ w).alloc (ah _) _).alloc (by simp) _).alloc (by simp;omega) _).alloc (by simp;omega) _
 have fi:((((w.alloc (.cells #[.iface 189 (.agg #[.pointer (some ⟨h,0,none⟩)])] 112)).alloc (.map #[] 0)).alloc (.cells #[.map (some (w.heap.size+1))] 107)).alloc (.cells #[.pointer (some ⟨h,0,none⟩)] 189)).heap.size=w.heap.size+4:=by simp
 simp only [aW,Nat.reduceAdd]
 obtain ⟨W0,d2⟩:∃ W0,(((w.alloc (.cells #[.iface 189 (.agg #[.pointer (some ⟨h,0,none⟩)])] 112)).alloc (.map #[] 0)).alloc (.cells #[.map (some (w.heap.size+1))] 107)).alloc (.cells #[.pointer (some ⟨h,0,none⟩)] 189)=W0:=⟨_,rfl⟩
 rw [d2] at bP tM hX hY b4 fi⊢
 clear d2
 have bL:=hd.row
 have a3:=hd.tab
 have fk:=bL.lt
 have bs:=a3.lt
 refine wpIn_rangeFunc_ownH rfl (by omega) (gf:=208) (lb:=#[.pointer (some ⟨w.heap.size+3,0,none⟩)]) rfl cM (enters_of Tryz.func208 (by kernel_rfl) rfl)
  (BJ (9-1) (by omega) (w.heap.size+3) h x d.S W0 (by omega) hY.cell (bL.fW (b4.block _ fk)) (a3.fW (b4.block _ bs))) (fun h k=>lz.trans h k)
  (fun W l o o' hl G hc hw=>⟨by simp,World.putObj_heap_other (by omega),(fun k m a b c hk=>(World.putObj_heap_other (fun e=>by subst e;rw [hk] at G;cases G;cases hw)).trans hk)⟩) (Below.refl _ _) (fun _=>rfl)
  (fun pre W=>(((TabAt W (w.heap.size+1) (gQ pre)∧W0.heap.size≤W.heap.size)∧Boxed W (w.heap.size+2) 107 (.map (some (w.heap.size+1))))∧Boxed W w.heap.size 112 (.iface 189 (.agg #[.pointer (some ⟨h,0,none⟩)])))∧Below w.heap.size w W)
  (fun _ _ _=>False)
  (OwnFrom.and (OwnFrom.and (OwnFrom.and (OwnFrom.and (AG (by omega) gQ) (fun s X Y row hs hg _=>aI hs hg.size)) (Own.from (boxed_own _ _ _) _)) (Own.from (boxed_own _ _ _) _)) (ownFrom_below (ah _) (by omega)))
  (fun _ _ _ _ _ hs _ _=>hs)
  ⟨⟨⟨⟨tM,ah _⟩,hX⟩,bP⟩,b4⟩
  (fun y a' W=>∃ Q,w.heap.size+3<Q∧W.heap[Q]?=some (.cells #[.int .i64 y.1.1,.string ⟨y.1.2.toArray⟩] 94 (0,0))∧a' = {tmps:=#[.pointer (some ⟨q,off,none⟩),.iface 189 (.agg #[.pointer (some ⟨h,0,none⟩)]),undef,.pointer (some ⟨w.heap.size,0,none⟩),.pointer (some ⟨w.heap.size+2,0,none⟩),.pointer (some ⟨Q,0,none⟩),.string ⟨y.2.toArray⟩,undef,undef,undef,undef,undef,undef,undef,undef,.map (some (w.heap.size+1)),.iface 189 (.agg #[.pointer (some ⟨h,0,none⟩)]),.func (.func 208) #[] #[.pointer (some ⟨w.heap.size+3,0,none⟩)],.agg #[.int .i64 y.1.1,.string ⟨y.1.2.toArray⟩],.string ⟨y.2.toArray⟩,undef,undef,undef,undef,undef,undef,undef,undef,undef,undef,undef,undef,undef,undef,undef,undef,undef,undef,undef,undef,undef,undef,undef,undef,undef,undef,undef,undef,undef,undef,undef,undef,undef,undef,undef,undef,undef,undef,undef,undef,undef,undef,undef,undef,undef,undef,undef,undef,undef],defers:=[]})
  (fun y a' _ X Y row hs hg hW=>by
   obtain ⟨Q,h1,h2,h3⟩:=hs
   exact ⟨Q,h1,(hg.block Q (fI h2) (fun e=>by obtain ⟨-,o,G,hc⟩:=hW Q e.symm;rw [h2] at G;cases G;cases hc)).trans h2,h3⟩)
  ?assign ?body ?done ?stop
 case assign =>
  rintro l pre y W K ⟨⟨⟨⟨h1,ci⟩,h2⟩,h3⟩,h4⟩ hK
  unfold kV iX
  gi_wp2
  have O:Below W.heap.size W (W.alloc (.cells #[.int .i64 y.1.1,.string ⟨y.1.2.toArray⟩] 94)):=(Below.refl _ W).alloc (ah _) _
  exact hK _ _ ((KeepsOthers.alloc _ _).from _) (lz.gw O (by have:=h4.size;omega)) ⟨⟨⟨⟨h1.fW (O.block _ h1.lt),by simp;omega⟩,h2.alloc _⟩,h3.alloc _⟩,h4.alloc h4.size _⟩ ⟨W.heap.size,by omega,fL W _,rfl⟩
 case body =>
  rintro l pre ⟨⟨N,J⟩,M⟩ a' W hl ⟨rr,fl⟩ ⟨⟨⟨⟨h1,ci⟩,h2⟩,h3⟩,h4⟩ ⟨Q,fn,hU,rfl⟩ a4
  dsimp only at hU⊢
  have c0:=h2.cell
  have x0:=af _ _ 0 _ _ _ hU
  have x1:=af _ _ 1 _ _ _ hU
  obtain ⟨W1,hu,d3,bk,ho⟩:=TabAt.put (w:=W) h1 (mt:=107) Tryz.underlying107 (N,J) M
  have fo:(Instr.mapUpdate 107 (.map (some (w.heap.size+1))) (kV (N,J)) (kP M)).run Tryz.prog W = .ok () W1:=hu 0
  simp only [kV,iX,kP] at fo
  have fp:=ae d3
  have co:=ae h1
  clear hu d3 h1
  gi_wp2
  have d4:∀ (j:Nat) (C:Array Value) (t:TypeId) (fz:Nat×Nat),W.heap[j]?=some (.cells C t fz)→W1.heap[j]?=some (.cells C t fz):=fun j C t fz hZ=>(bk.block j (fI hZ) (fun e=>co.out.jQ hZ (by cases e;rfl))).trans hZ
  have hp:=co.out.lt
  refine ⟨⟨bk.size,fun k o hk G _=>(bk.block k (fI G) (fun e=>by cases e;omega)).trans G⟩,lz.FC bk (by have:=h4.size;omega) (by omega) (fun m a b c e => ?_),⟨⟨⟨by rw [vN];exact fp.out,aI ci bk.size⟩,d4 _ _ _ _ h2⟩,d4 _ _ _ _ h3⟩,h4.grown bk h4.size (fun j e=>by cases e;omega)⟩
  obtain ⟨-,L,⟨es,cl,fr,-⟩,-⟩:=co.out
  rw [fr] at e
  cases e
 case done =>
  rintro D ys W ip d5 ⟨⟨⟨⟨h1,ci⟩,h2⟩,h3⟩,h4⟩ hK
  rw [xK a3.sorted d5] at h1
  have fB:=h1.lt
  have hr:=h4.size
  have aE:Below W.heap.size W (W.alloc (.cells #[.map (some (w.heap.size+1))] 107)):=(Below.refl _ W).alloc (ah _) _
  have d6:=ae (nI W.heap.size (w.heap.size+1) d.S (W.alloc (.cells #[.map (some (w.heap.size+1))] 107)) (by simp) (af _ _ 0 _ _ _ (fL W (.cells #[.map (some (w.heap.size+1))] 107))) (h1.fW (aE.block _ fB)) (by omega))
  have c0:=h2.cell
  gi_wp2_with (first
   | (refine ⟨cM,(callsIn_wide.2 (rD (w.heap.size+1) W)).mono ?_⟩;rintro e w0 ⟨rfl,rfl⟩)
   | (refine ⟨cM,(callsIn_wide.2 d6.out).mono ?_⟩;rintro e w1 ⟨v,rfl,b5,cp⟩;obtain ⟨sa,ap,rfl,-,-⟩:=b5.opened;rw [aH] at *))
  have cq:Below w.heap.size w w1:=(h4.IZ aE).trans (cp.mono (h4.IZ aE).size)
  have f1:=cq.size
  have hmx:d.S.length≤ap:=by obtain ⟨a',c',e,h,-⟩:=b5.opened;obtain ⟨-,-,rfl⟩:=Value.slice.inj e;simpa using h
  have O:Below W.heap.size W w1:=aE.trans (cp.mono (by simp))
  have bN:=ae ((l7.start (w:=w) hd).below cq)
  have bO:=ae ((lK.mk (w:=w) (h:=h) (D:=D) (S0:=d.S) h1 h2 h3 hK).below O)
  have f2:=ae b5
  have cr:=ae a3.sorted
  have d7:q≠x.r:=fun e=>by
   have:=mX he.cell a3
   exact this e
  have d8:r≠h:=fun e=>he.tab.jQ bL e.symm
  have d9:x.log.ownBlock≠some r:=hd.ltyp.qe he.tab
  have b6:Hid (¬(q=h∨q=x.r∨x.log.ownBlock=some q)):=ae (fun e=>by rcases e with e | e | e;exact fb e;exact d7 e;exact fd e)
  have br:Hid (¬(r=h∨r=x.r∨x.log.ownBlock=some r)):=ae (fun e=>by rcases e with e | e | e;exact d8 e;exact fg e;exact d9 e)
  have HE:=ae he
  have ht:=Fz h
  have hv:=Ao h
  clear b5 h1 h2 h3 hK c0 d6 cp O hY hX tM bP d7 d8 d9 d5 aE
  gi_loopw [28] (fun i wr=>∃ k:Nat,k≤d.S.length∧i = .int .i64 (k:Int)∧l7 w base h x (d.run (iQ d.S T k)) wr∧lK w h D d.S wr∧lM wr (.slice sa d.S.length ap) (d.S.map (·.1))) (fun i _=>d.S.length-(intOf i).toNat)
  case atStart=>exact ⟨0,aL _,rfl,bN.out,bO.out,f2.out⟩
  case round =>
   obtain ⟨k,hk,rfl,bv,b7,b8⟩:=hrel
   by_cases a4:k<d.S.length
   ·have g1:(k:Int)<d.S.length:=by omega
    obtain ⟨hx,gv,e,-,h7⟩:=b8.opened
    obtain ⟨rfl,-,rfl⟩:=Value.slice.inj e
    obtain ⟨ct,ko,rfl,c0,c1⟩:=h7 k (by simpa using a4)
    obtain ⟨y,bl⟩:∃ y,y=d.S[k]:=⟨_,rfl⟩
    rw [eY,←bl] at c0 c1
    have eb:y∈d.S:=by rw [bl];exact cF a4
    have ec:=e8 y eb
    obtain ⟨⟨KT,KB⟩,VB⟩:=y
    simp only at c0 c1 ec
    have f4:Hid ((jq (KT,KB) T).isSome=true→iQ d.S T (k+1)=iQ d.S T k):=ae (fun h=>yC a4 (by rw [←bl];exact h))
    have e2:Hid ((jq (KT,KB) T).isSome=false→iQ d.S T (k+1)=iQ d.S T k++[((KT,KB),none)]):=ae (fun h=>by have:=BH a4 (T:=T) (by rw [←bl];exact h);rw [←bl] at this;exact this)
    have bn:=ae (HE.out.ext bv.ext b6.out br.out)
    have ed:=bn.out.cell
    have f5:=fP ed
    have f6:=fP c0
    have eg:Below wr.heap.size wr (wr.alloc (.cells #[.int .i64 KT,.string ⟨KB.toArray⟩] 94)):=(Below.refl _ wr).alloc (ah _) _
    have ag:=ae eg
    have bw:=ae bv
    have a0:=ae b7
    have f7:=ae b8
    clear bv b7 b8 hk bl eb eg h7
    gi_wp2
    obtain ⟨wa,cu⟩:∃ wa,wa=wr.alloc (.cells #[.int .i64 KT,.string ⟨KB.toArray⟩] 94):=⟨_,rfl⟩
    rw [←cu] at ag⊢
    have ca:Hid (wa.heap[wr.heap.size]?=some (.cells #[.int .i64 KT,.string ⟨KB.toArray⟩] 94 (0,0))):=ae (by rw [cu];exact fL _ _)
    have cb:=ae (bn.out.below ag.out)
    have hy:wr.heap.size<wa.heap.size:=fI ca.out
    clear cu c0 c1 ed f5 f6
    have ej:=cb.out.cell
    have e3:=fP ej
    have d0:=af _ _ 0 _ _ _ ca.out
    have d1:=af _ _ 1 _ _ _ ca.out
    have aa:=TabAt.kM (w:=wa.drew) (cb.out.tab.fW rfl) (mt:=107) Tryz.underlying107 (sI _) (KT,KB)
    simp only [kV,iX,kP] at aa
    obtain ⟨bt,a6⟩:∃ bt,bt=(jq (KT,KB) T).isSome:=⟨_,rfl⟩
    rw [←a6] at aa
    have bo:=ae a6
    clear a6
    have a7:=fun o=>TabAt.kM (w:=(wa.alloc o).drew) (cb.out.tab.fW (heap_alloc_old _ _ cb.out.tab.lt)) (mt:=107) Tryz.underlying107 (sI _) (KT,KB)
    simp only [kV,iX,kP] at a7
    rw [←bo.out] at a7
    gi_region
    obtain ⟨w9,ce⟩:∃ w9,w9=(wa.alloc (.cells #[.string ⟨((jq (KT,KB) T).getD []).toArray⟩] 180)).drew:=⟨_,rfl⟩
    rw [←ce]
    have cv:Hid (Below wr.heap.size wr w9):=ae (by rw [ce];exact (ag.out.alloc ag.out.size _).drew)
    have cB:Hid (w9.heap[wr.heap.size]?=some (.cells #[.int .i64 KT,.string ⟨KB.toArray⟩] 94 (0,0))):=ae (by rw [ce];exact fQ _ _ ca.out)
    have c2:=ae (bw.out.below cv.out)
    have bX:=ae (a0.out.below cv.out)
    have c3:Hid (lM w9 (.slice (some ⟨ct,ko,none⟩) d.S.length ap) (d.S.map (·.1))):=ae ((f7.out).kept (x:=w.heap.size) (y:=w.heap.size) (z:=w.heap.size) (gP.gw cv.out a0.out.boxP.lt a0.out.boxP.lt a0.out.boxP.lt))
    clear ce aa a7 d0 d1 ej e3
    have h8:=bX.out.boxP.cell
    have d0:=af _ _ 0 _ _ _ cB.out
    have d1:=af _ _ 1 _ _ _ cB.out
    have hz:=fI cB.out
    cases bt with
    | true =>
     have c4:=ae (f4.out bo.out.symm)
     gi_wp2
     have ak:∃ k':Nat,k'≤d.S.length∧Value.int .i64 ((k:Int)+1) = .int .i64 (k':Int)∧l7 w base h x (d.run (iQ d.S T k')) w9∧lK w h D d.S w9∧lM w9 (.slice (some ⟨ct,ko,none⟩) d.S.length ap) (d.S.map (·.1)):=⟨k+1,by omega,rfl,by rw [c4.out];exact c2.out,bX.out,c3.out⟩
     simp only [aH]
     refine ⟨?_,?_⟩
     ·first
       | exact ak
       | ((repeat apply Exists.intro);exact ⟨ak,rfl⟩)
     ·simp [intOf]
      omega
    | false =>
     have c4:=ae (e2.out bo.out.symm)
     obtain ⟨⟨lv,al,R⟩,F⟩:=c2.out
     obtain ⟨f8,f9,ga⟩:=DpS.sD (d:=d) (iQ d.S T k) cr.out
     have gb:=pX d.S T k
     have el:=ae (fun W (O:Below w9.heap.size w9 W)=>BG base h {x with left:=(d.run (iQ d.S T k)).left,dead:=(d.run (iQ d.S T k)).dead,log:=lv} (d.run (iQ d.S T k)) KT KB W (al.below O) (by have:=F.size;have:=O.size;omega) (by omega) ec)
     gi_wp2_with fail
     refine ⟨cM,(callsIn_wide.2 (el.out w9 (Below.refl _ _))).mono ?_⟩
     rintro e w' hV
     obtain ⟨ab,I,am⟩:=l7.step R al F hV
     obtain ⟨rfl,-⟩:=hV
     have HG:=ae ab
     have ba:=ae (bX.out.aside bs I)
     have e4:=ae (c3.out.aside I)
     clear ab I am al R F h8 d0 d1 el
     gi_wp2
     have ak:∃ k':Nat,k'≤d.S.length∧Value.int .i64 ((k:Int)+1) = .int .i64 (k':Int)∧l7 w base h x (d.run (iQ d.S T k')) w'∧lK w h D d.S w'∧lM w' (.slice (some ⟨ct,ko,none⟩) d.S.length ap) (d.S.map (·.1)):=⟨k+1,by omega,rfl,by rw [c4.out,DpS.sF];exact HG.out,ba.out,e4.out⟩
     simp only [aH]
     refine ⟨?_,?_⟩
     ·first
       | exact ak
       | ((repeat apply Exists.intro);exact ⟨ak,rfl⟩)
     ·simp [intOf]
      omega
   ·obtain rfl:k=d.S.length:=by omega
    have g1:¬(d.S.length:Int)<d.S.length:=by omega
    have bw:=ae bv
    have a0:=ae b7
    clear bv b7 b8 hk a4
    gi_wp2_with fail
    refine ⟨cM,(callsIn_wide.2 (o8 q off _)).mono ?_⟩
    rintro e w2 ⟨rfl,rfl⟩
    gi_wp2_with fail
    have gc:T.length≤1000000000:=by omega
    have hA:=bw.out.ext.size
    have hB:=a0.out.boxH.lt
    have g6:=fI a0.out.defer
    have ag:Hid (Below wr.heap.size wr (wr.alloc (.cells #[.pointer (some ⟨q,off,none⟩)] 173))):=ae ((Below.refl _ wr).alloc (ah _) _)
    have bn:=ae (HE.out.ext bw.out.ext b6.out br.out)
    have em:Hid ((wr.alloc (.cells #[.pointer (some ⟨q,off,none⟩)] 173)).cell? ⟨wr.heap.size,0,none⟩=some (.pointer (some ⟨q,off,none⟩))):=ae (af _ _ 0 _ _ _ (fL wr (.cells #[.pointer (some ⟨q,off,none⟩)] 173)))
    have c6:Hid ((wr.alloc (.cells #[.pointer (some ⟨q,off,none⟩)] 173)).heap[wr.heap.size]?=some (.cells #[.pointer (some ⟨q,off,none⟩)] 173 (0,0))):=ae (fL wr _)
    obtain ⟨W1,c7⟩:∃ W1,W1=wr.alloc (.cells #[.pointer (some ⟨q,off,none⟩)] 173):=⟨_,rfl⟩
    have f1:W1.heap.size=wr.heap.size+1:=by rw [c7];simp
    rw [←c7] at ag em c6⊢
    clear c7
    have ge:=ae (bn.out.below ag.out)
    have bN:=ae (bw.out.below ag.out)
    have bO:=ae (a0.out.below ag.out)
    have g7:=bn.out.lt
    have g8:=bn.out.tab.lt
    have h0:lD d.S T []=iQ d.S T d.S.length:=by unfold lD qT kz;simp
    refine wpIn_rangeFunc_ownH rfl (by omega) (gf:=90) (lb:=#[.pointer (some ⟨wr.heap.size,0,none⟩)]) rfl cM (enters_of Tryz.func90 (by kernel_rfl) rfl)
     (nz (Subtype.val : {x:E // x∈T}→E) T.attach (9-1) wr.heap.size q off r T (dY T) W1 (by omega) em.out ge.out gc) (fun h k=>gP.trans h k)
     (fun W l o o' hl G hc hw=>⟨by simp,fun k hk=>World.putObj_heap_other (by rcases hk with rfl | rfl | rfl <;> omega),fun k cs fz hk=>(World.putObj_heap_other (fun e=>by subst e;rw [hk] at G;cases G;cases hc)).trans hk⟩) (Below.refl _ _) (fun _=>rfl)
     (fun (pre:List {x:E // x∈T}) W=>l7 w base h x (d.run (lD d.S T (pre.map Subtype.val))) W∧lK w h D d.S W∧W1.heap.size≤W.heap.size∧W.heap[wr.heap.size]?=some (.cells #[.pointer (some ⟨q,off,none⟩)] 173 (0,0)))
     (fun _ _ _=>False)
     (fun s X Y row hs hg hW=>⟨hs.1.vF hg hW (by omega) (by omega),hs.2.1.vF hg hW (by omega) (by omega),aI hs.2.2.1 hg.size,jA hg hW hs.2.2.2 (.inr rfl)⟩)
     (fun _ _ _ _ _ hs _ _=>hs)
     ⟨by rw [du,h0];exact bN.out,bO.out,ah _,c6.out⟩
     (fun y a' V=>∃ Q,w.heap.size+3<Q∧V.heap[Q]?=some (.cells #[.int .i64 y.1.1.1,.string ⟨y.1.1.2.toArray⟩] 94 (0,0))∧a' = {tmps:=#[.pointer (some ⟨q,off,none⟩),.iface 189 (.agg #[.pointer (some ⟨h,0,none⟩)]),undef,.pointer (some ⟨w.heap.size,0,none⟩),.pointer (some ⟨w.heap.size+2,0,none⟩),undef,undef,undef,u8,u9,u10,.pointer (some ⟨Q,0,none⟩),.string ⟨y.1.2.toArray⟩,undef,undef,.map (some (w.heap.size+1)),.iface 189 (.agg #[.pointer (some ⟨h,0,none⟩)]),.func (.func 208) #[] #[.pointer (some ⟨w.heap.size+3,0,none⟩)],undef,undef,undef,undef,undef,undef,.map (some (w.heap.size+1)),.func (.func 131) #[] #[.pointer (some ⟨W.heap.size,0,none⟩)],.slice sa d.S.length ap,.int .i64 (d.S.length:Int),.int .i64 (d.S.length:Int),.bool false,u30,u31,u32,u33,u34,u35,u36,u37,u38,u39,u40,u41,u42,u43,u44,u45,u46,.pointer (some ⟨q,off,none⟩),.func (.func 90) #[] #[.pointer (some ⟨wr.heap.size,0,none⟩)],.agg #[.int .i64 y.1.1.1,.string ⟨y.1.1.2.toArray⟩],.string ⟨y.1.2.toArray⟩,undef,undef,undef,undef,undef,undef,undef,undef,undef,undef,undef,undef,undef,undef,undef,undef,undef,undef],defers:=[]})
     (fun y a' _ X Y row hs hg hW=>by
      obtain ⟨Q,h1,h2,h3⟩:=hs
      exact ⟨Q,h1,jA hg hW h2 (.inr rfl),h3⟩)
     ?assign2 ?body2 ?done2 ?stop2
    case assign2 =>
     rintro l pre y V K ⟨h1,h2,h3,h4⟩ hK
     unfold kV iX
     gi_wp2
     have O:Below V.heap.size V (V.alloc (.cells #[.int .i64 y.1.1.1,.string ⟨y.1.1.2.toArray⟩] 94)):=(Below.refl _ V).alloc (ah _) _
     exact hK _ _ ((KeepsOthers.alloc _ _).from _) (gP.gw O (by omega) (by omega) (by omega)) ⟨h1.below O,h2.below O,by simp;omega,fQ V _ h4⟩ ⟨V.heap.size,by omega,fL V _,rfl⟩
    case body2 =>
     rintro l bb ⟨⟨⟨N,J⟩,M⟩,en⟩ a' V hl ⟨rr,fl⟩ ⟨h1,h2,h3,h4⟩ ⟨Q,fn,hU,rfl⟩ a4
     dsimp only at hU⊢
     have cf:Hid ((bb++[(⟨((N,J),M),en⟩ : {x:E // x∈T})]).map Subtype.val=bb.map Subtype.val++[((N,J),M)]):=ae (by simp)
     have dT:(bb.map Subtype.val).length=bb.length:=aH _
     obtain ⟨pre,c8⟩:∃ pre,pre=bb.map Subtype.val:=⟨_,rfl⟩
     rw [←c8] at h1 cf dT
     clear c8
     have c0:=h2.boxH.cell
     have p0:=h2.boxP.cell
     have x0:V.cell? ⟨Q,0,none⟩=some (.int .i64 N):=af _ _ 0 _ _ _ hU
     have x1:V.cell? ⟨Q,1,none⟩=some (.string ⟨J.toArray⟩):=af _ _ 1 _ _ _ hU
     have aa:=TabAt.kM (w:=V) h2.tab (mt:=107) Tryz.underlying107 (sI _) (N,J)
     simp only [kV,iX,kP] at aa
     obtain ⟨bt,a6⟩:∃ bt,bt=(jq (N,J) d.S).isSome:=⟨_,rfl⟩
     obtain ⟨ov,bz⟩:∃ ov,ov=(jq (N,J) d.S).getD []:=⟨_,rfl⟩
     rw [←a6,←bz] at aa
     have bo:=ae a6
     have gg:=ae bz
     have H1:=ae h1
     have H2:=ae h2
     have HX:=ae hU
     have hb:=fI hU
     have hC:=h2.boxP.lt
     clear a6 bz h1 h2 hU
     have hD:=GX h
     have hE:=Ct h
     have c9:=ae (AI d.S T pre ((N,J),M))
     have hG:pre.length≤100000000:=by omega
     have b1:Hid (((N,J),M)∈d.S↔jq (N,J) d.S=some M):=ae (nS cr.out.keys (N,J) M).symm
     have er:J.length≤gx∧M.length≤gx:=e9 ((N,J),M) en
     obtain ⟨f8,f9,ga⟩:=DpS.sD (d:=d) (lD d.S T pre) cr.out
     have gb:=CJ d.S T pre
     obtain ⟨⟨lv,al,R⟩,F⟩:=H1.out
     have u:Hid (Below V.heap.size V (V.alloc (.cells #[.string ⟨ov.toArray⟩] 180))):=ae ((Below.refl _ V).alloc (ah _) _)
     have eC:=ae (fun U (eD:Below V.heap.size V U)=>DG base h {x with left:=(d.run (lD d.S T pre)).left,dead:=(d.run (lD d.S T pre)).dead,log:=lv} (d.run (lD d.S T pre)) N J M U (al.below eD) (by have:=F.size;have:=eD.size;omega) (by omega) er.1 er.2 (by omega))
     have bD:Hid ((∃ o,V.heap[wr.heap.size]?=some o∧Aside x.r wr.heap.size o)∧q<w.heap.size∧r<w.heap.size∧x.r<w.heap.size):=ae ⟨⟨_,h4,kj (by decide) (by decide)⟩,HE.out.lt,HE.out.tab.lt,bs⟩
     cases bt with
     | false =>
      have b2:Hid (¬((N,J),M)∈d.S):=ae fun hm=>by
       have h1:=b1.out.1 hm
       have h2:=bo.out
       rw [h1] at h2
       cases h2
      gi_wp2_with fail
      refine ⟨cM,(callsIn_wide.2 (eC.out _ u.out)).mono ?_⟩
      rintro e w' hV
      obtain ⟨ab,I,am⟩:=l7.step R (al.below u.out) (F.trans (Ext.fM u.out)) hV
      obtain ⟨rfl,gl,-,bH,-⟩:=hV
      have Z:∀ k,k=wr.heap.size∨k=q∨k=r→w'.heap[k]?=V.heap[k]?:=fun k hk=>by
       obtain ⟨⟨o,G,da⟩,e1,h9,ib⟩:=bD.out
       have gn:=F.size
       rcases hk with rfl | rfl | rfl
       ·rw [I _ o (fK u.out (fI G) G) da,G]
       ·refine (bH.block _ (by have:=u.out.size;omega) fun e=>b6.out ?_).trans (u.out.block _ (by omega))
        rcases e with e | e | e
        ·exact .inl e
        ·exact .inr (.inl e)
        ·exact .inr (.inr ((R _ e).elim id (fun h=>by omega)))
       ·refine (bH.block _ (by have:=u.out.size;omega) fun e=>br.out ?_).trans (u.out.block _ (by omega))
        rcases e with e | e | e
        ·exact .inl e
        ·exact .inr (.inl e)
        ·exact .inr (.inr ((R _ e).elim id (fun h=>by omega)))
      have HG:=ae ab
      have ba:=ae ((H2.out.below u.out).aside bs I)
      have bI:Hid (gP wr.heap.size q r V w'):=ae ⟨aI u.out.size am,fun k hk=>Z k hk,fun k cs fz hk=>I k _ (fK u.out (fI hk) hk) (kj (by decide) (by decide))⟩
      have dc:Hid (KeepsFrom W1.heap.size V w'):=ae ⟨aI u.out.size am,fun k o hk G hc=>I k o (fK u.out (fI G) G) ⟨(fun C fz e=>by rw [e] at hc;cases hc),(fun C fz e=>by rw [e] at hc;cases hc),(fun es cl e=>by omega)⟩⟩
      have e6:=bI.out.size
      clear ab I am al R F
      gi_wp2
      refine ⟨dc.out,bI.out,?_,ba.out,by omega,(Z _ (.inl rfl)).trans h4⟩
      rw [cf.out,c9.out,aw b2.out,DpS.sF]
      exact HG.out
     | true =>
      obtain ⟨v0,dk⟩:∃ v0,jq (N,J) d.S=some v0:=cE.1 bo.out.symm
      have bz:ov=v0:=by have:=gg.out;rw [dk] at this;exact this
      subst bz
      have eS:=ae dk
      clear dk
      by_cases heq:ov=M
      ·have go:Hid (((N,J),M)∈d.S):=ae (b1.out.2 (by rw [eS.out,heq]))
       subst heq
       have gp:((⟨ov.toArray⟩:ByteArray)==⟨ov.toArray⟩)=true:=(cR _ _).2 rfl
       have hH:((⟨ov.toArray⟩:ByteArray) != ⟨ov.toArray⟩)=false:=by rw [bne,gp];rfl
       gi_wp2
       refine ⟨⟨u.out.size,fun k o hk G hc=>fK u.out (fI G) G⟩,gP.gw u.out (by have:=bD.out.1;obtain ⟨o,G,-⟩:=this;exact fI G) (by have:=bD.out.2.1;have:=F.size;omega) (by have:=bD.out.2.2.1;have:=F.size;omega),?_,H2.out.below u.out,by have:=u.out.size;omega,fK u.out (fI h4) h4⟩
       rw [cf.out,c9.out,aF go.out]
       exact H1.out.below u.out
      ·have b2:Hid (¬((N,J),M)∈d.S):=ae fun hm=>by
        have h1:=b1.out.1 hm
        rw [eS.out] at h1
        exact heq (Option.some.inj h1)
       have hi:((⟨ov.toArray⟩:ByteArray)==⟨M.toArray⟩)=false:=by
        cases gq:((⟨ov.toArray⟩:ByteArray)==⟨M.toArray⟩) with
        | false=>rfl
        | true =>
         have e:=(cR _ _).1 gq
         exact absurd (by injection e with e;simpa using e) heq
       have e7:(ov==M)=false:=aD.2 heq
       have hj:(!(ov==M))=true:=by rw [e7];rfl
       gi_wp2_with fail
       refine ⟨cM,(callsIn_wide.2 (eC.out _ u.out)).mono ?_⟩
       rintro e w' hV
       obtain ⟨ab,I,am⟩:=l7.step R (al.below u.out) (F.trans (Ext.fM u.out)) hV
       obtain ⟨rfl,gl,-,bH,-⟩:=hV
       have Z:∀ k,k=wr.heap.size∨k=q∨k=r→w'.heap[k]?=V.heap[k]?:=fun k hk=>by
        obtain ⟨⟨o,G,da⟩,e1,h9,ib⟩:=bD.out
        have gn:=F.size
        rcases hk with rfl | rfl | rfl
        ·rw [I _ o (fK u.out (fI G) G) da,G]
        ·refine (bH.block _ (by have:=u.out.size;omega) fun e=>b6.out ?_).trans (u.out.block _ (by omega))
         rcases e with e | e | e
         ·exact .inl e
         ·exact .inr (.inl e)
         ·exact .inr (.inr ((R _ e).elim id (fun h=>by omega)))
        ·refine (bH.block _ (by have:=u.out.size;omega) fun e=>br.out ?_).trans (u.out.block _ (by omega))
         rcases e with e | e | e
         ·exact .inl e
         ·exact .inr (.inl e)
         ·exact .inr (.inr ((R _ e).elim id (fun h=>by omega)))
       have HG:=ae ab
       have ba:=ae ((H2.out.below u.out).aside bs I)
       have bI:Hid (gP wr.heap.size q r V w'):=ae ⟨aI u.out.size am,fun k hk=>Z k hk,fun k cs fz hk=>I k _ (fK u.out (fI hk) hk) (kj (by decide) (by decide))⟩
       have dc:Hid (KeepsFrom W1.heap.size V w'):=ae ⟨aI u.out.size am,fun k o hk G hc=>I k o (fK u.out (fI G) G) ⟨(fun C fz e=>by rw [e] at hc;cases hc),(fun C fz e=>by rw [e] at hc;cases hc),(fun es cl e=>by omega)⟩⟩
       have e6:=bI.out.size
       clear ab I am al R F
       gi_wp2
       refine ⟨dc.out,bI.out,?_,ba.out,by omega,(Z _ (.inl rfl)).trans h4⟩
       rw [cf.out,c9.out,aw b2.out,DpS.sF]
       exact HG.out
    case done2 =>
     rintro D2 ys V gs rfl ⟨h1,h2,h3,h4⟩ aE
     have gt:=h2.defer
     have gu:D≠D2:=by omega
     have hI:=h1.ext.size
     rw [dY,CI] at h1
     have ab:V.grownBy (V.putObj D2 (.deferred none)) (some D2):=grownBy_putObj' V D2 _
     have h5:=h1.vF (B:=W1.heap.size) ab (fun r e=>by cases e;exact ⟨gs,_,aE,rfl⟩) (by omega) (by omega)
     have dl:(V.putObj D2 (.deferred none)).heap[D]?=some (.deferred (some [])):=(World.putObj_heap_other gu).trans gt
     have I:(V.putObj D2 (.deferred none)).grownBy ((V.putObj D2 (.deferred none)).putObj D (.deferred none)) (some D):=grownBy_putObj' _ D _
     have h6:=h5.vF (B:=w.heap.size+1) I (fun r e=>by cases e;exact ⟨by omega,_,dl,rfl⟩) (by omega) (by omega)
     refine ⟨by simp,.inl ⟨_,_,rfl,run_takeDeferred aE,by simp,.inl ⟨_,_,rfl,run_takeDeferred dl,?_⟩⟩⟩
     exact ⟨_,eh rfl _ _ _,rfl,h6⟩
    case stop2 =>
     rintro D c pre W _ _ h _
     exact h.elim
 case stop =>
  rintro D c pre W _ _ h _
  exact h.elim
end Go.Proofs.YtkkfmkhbdoeglaaGreatDoor
