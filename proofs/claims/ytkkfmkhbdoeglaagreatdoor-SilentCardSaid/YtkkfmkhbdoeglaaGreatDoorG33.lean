/- A part of what is proved here: lemmas and contracts of single functions. No condition but those that each names. -/
import Derived.Test.YtkkfmkhbdoeglaaGreatDoorG00
import Derived.Test.YtkkfmkhbdoeglaaGreatDoorG32
set_option maxHeartbeats 4000000
set_option maxRecDepth 100000
namespace Go.Proofs.YtkkfmkhbdoeglaaGreatDoor
open Go.RowKit Go.Shelf
attribute [local go_sem] Oper.semAt_some
theorem EW (h : Nat) (w : World) : (nilAhead 433 189 (.agg #[.pointer (some ⟨h, 0, none⟩)]) "Dump").run Tryz.prog w = .ok (some false) w := by kernel_rfl
theorem yi (h : Nat) (w : World) : (method 433 189 (.agg #[.pointer (some ⟨h, 0, none⟩)]) "Dump").run Tryz.prog w = .ok (205, .agg #[.pointer (some ⟨h, 0, none⟩)]) w := by kernel_rfl
theorem Ed (h : Nat) (w : World) : (nilAhead 433 189 (.agg #[.pointer (some ⟨h, 0, none⟩)]) "Drop").run Tryz.prog w = .ok (some false) w := by kernel_rfl
theorem yP (h : Nat) (w : World) : (method 433 189 (.agg #[.pointer (some ⟨h, 0, none⟩)]) "Drop").run Tryz.prog w = .ok (204, .agg #[.pointer (some ⟨h, 0, none⟩)]) w := by kernel_rfl
theorem Ft (h : Nat) (w : World) : (nilAhead 433 189 (.agg #[.pointer (some ⟨h, 0, none⟩)]) "Put").run Tryz.prog w = .ok (some false) w := by kernel_rfl
theorem Bo (h : Nat) (w : World) : (method 433 189 (.agg #[.pointer (some ⟨h, 0, none⟩)]) "Put").run Tryz.prog w = .ok (206, .agg #[.pointer (some ⟨h, 0, none⟩)]) w := by kernel_rfl
def qj (l:List E):List E:=l.foldl (fun S x=>jS x.1 x.2 S) []
theorem zY (l:List E) (x:E):qj (l++[x])=jS x.1 x.2 (qj l):=by simp [qj]
structure lB (w:World) (base h:Nat) (x:HV) (d:DpS) (wr:World):Prop where
 at_:∃ lv,DpAt wr base h {x with left:=d.left,dead:=d.dead,log:=lv} d∧(∀ i,lv.ownBlock=some i→x.log.ownBlock=some i∨w.heap.size≤i)
 ext:Ext (fun i=>i=h∨i=x.r∨x.log.ownBlock=some i) w wr
def Aside (r:Nat) (j:Nat) (o:Obj):Prop:=(∀ C fz,o≠.cells C 9 fz)∧(∀ C fz,o≠.cells C 87 fz)∧(∀ es cl,o = .map es cl→j≠r)
theorem lB.start {w:World} {base h:Nat} {x:HV} {d:DpS} (hd:DpAt w base h x d):lB w base h x d w:=by
 refine ⟨⟨x.log,?_,fun i e => .inl e⟩,Ext.refl _ _⟩
 have e:({x with left:=d.left,dead:=d.dead,log:=x.log} : HV)=x:=by
  rw [←hd.left,←hd.dead]
 rw [e]
 exact hd
theorem DpAt.below {w w':World} {base h:Nat} {x:HV} {d:DpS} (hd:DpAt w base h x d) (i:Below w.heap.size w w'):DpAt w' base h x d :=
 ⟨hd.row.fP (i.block _ hd.row.lt),hd.left,hd.dead,hd.room,hd.tab.fP (i.block _ hd.tab.lt),hd.own.below i,hd.ltyp.frame fun b _ j=>i.block b j,hd.lo,hd.lb⟩
theorem lB.below {w wr w':World} {base h:Nat} {x:HV} {d:DpS} (hd:lB w base h x d wr) (b:Below wr.heap.size wr w'):lB w base h x d w':=by
 obtain ⟨⟨lv,h1,h2⟩,h3⟩:=hd
 exact ⟨⟨lv,h1.below b,h2⟩,h3.trans (Ext.fD b)⟩
theorem lB.step {w wr w':World} {base h:Nat} {x:HV} {d d':DpS} {lv:Value} (h2:∀ i,lv.ownBlock=some i→x.log.ownBlock=some i∨w.heap.size≤i) (h1:DpAt wr base h {x with left:=d.left,dead:=d.dead,log:=lv} d) (h3:Ext (fun i=>i=h∨i=x.r∨x.log.ownBlock=some i) w wr) {e:Ending}
  (y:BL base h {x with left:=d.left,dead:=d.dead,log:=lv} d' wr e w'):lB w base h x d' w'∧(∀ (j:Nat) (o:Obj),wr.heap[j]?=some o→Aside x.r j o→w'.heap[j]?=some o)∧wr.heap.size≤w'.heap.size:=by
 obtain ⟨-,m,hd,l,hl⟩:=y
 refine ⟨⟨⟨m,hd,fun i e => ?_⟩,h3.trans' l fun i B => ?_⟩,fun j o b D => ?_,l.size⟩
 ·rcases hl i e with e | e
  ·exact h2 i e
  ·exact .inr (aH h3.size e)
 ·rcases B with e | e | e
  ·exact .inl (.inl e)
  ·exact .inl (.inr (.inl e))
  ·exact (h2 i e).imp (fun e => .inr (.inr e)) id
 ·refine (l.block j (fw b) fun E => ?_).trans b
  obtain ⟨a1,a2,a3⟩:=D
  rcases E with e | e | e
  ·have q:wr.heap[h]?=_:=h1.row
   rw [←e,b] at q
   exact a2 _ _ (Option.some.inj q)
  ·obtain ⟨-,L,⟨es,cl,hm,-⟩,-⟩:=h1.tab
   have s:j=x.r:=e
   rw [show ({x with left:=d.left,dead:=d.dead,log:=lv} : HV).r=x.r from rfl,←s,b] at hm
   exact a3 _ _ (Option.some.inj hm) s
  ·obtain ⟨C,fz,u⟩:=h1.ltyp j e
   rw [b] at u
   exact a1 _ _ (Option.some.inj u)
theorem jP {r j:Nat} {C:Array Value} {t:TypeId} {fz:Nat×Nat} (h1:t≠9) (h2:t≠87):Aside r j (.cells C t fz) :=
 ⟨fun d b e=>h1 (by cases e;rfl),fun d b e=>h2 (by cases e;rfl),fun es cl e=>by cases e⟩
theorem TabAt.aside {w w':World} {b r:Nat} {S:List E} (h:TabAt w r S) (d:r≠b) (hk:∀ (j:Nat) (o:Obj),w.heap[j]?=some o→Aside b j o→w'.heap[j]?=some o):TabAt w' r S:=by
 have i:=h
 obtain ⟨-,L,⟨es,cl,hm,-⟩,-⟩:=i
 exact h.fP ((hk r _ hm ⟨(fun _ _ e=>by cases e),(fun _ _ e=>by cases e),fun _ _ _=>d⟩).trans hm.symm)
theorem lp.aside {w w':World} {d:Nat} {v:Value} {l:List K} (h:lp w v l) (hk:∀ (j:Nat) (o:Obj),w.heap[j]?=some o→Aside d j o→w'.heap[j]?=some o):lp w' v l:=by
 obtain ⟨h1,h2⟩:=h
 refine ⟨h1.frame fun b i _ => ?_,fun g m => ?_⟩
 ·obtain ⟨cs,fz,h⟩:=h2 b i
  rw [h,hk b _ h (jP (by decide) (by decide))]
 ·obtain ⟨cs,fz,h⟩:=h2 g m
  exact ⟨cs,fz,hk g _ h (jP (by decide) (by decide))⟩
structure kY (w:World) (h D:Nat) (S0:List E) (wr:World):Prop where
 tab:TabAt wr (w.heap.size+1) S0
 boxH:Boxed wr (w.heap.size+2) 107 (.map (some (w.heap.size+1)))
 boxP:Boxed wr w.heap.size 112 (.iface 189 (.agg #[.pointer (some ⟨h,0,none⟩)]))
 defer:wr.heap[D]?=some (.deferred (some []))
theorem kY.below {w wr w':World} {h D:Nat} {S0:List E} (hk:kY w h D S0 wr) (b:Below wr.heap.size wr w'):kY w h D S0 w' :=
 ⟨hk.tab.fP (b.block _ hk.tab.lt),(b.block _ hk.boxH.lt).trans hk.boxH,(b.block _ hk.boxP.lt).trans hk.boxP,(b.block _ (fw hk.defer)).trans hk.defer⟩
theorem kY.aside {w wr w':World} {h D r:Nat} {S0:List E} (hk:kY w h D S0 wr) (b:r<w.heap.size) (ha:∀ (j:Nat) (o:Obj),wr.heap[j]?=some o→Aside r j o→w'.heap[j]?=some o):kY w h D S0 w' :=
 ⟨hk.tab.aside (by omega) ha,ha _ _ hk.boxH (jP (by decide) (by decide)),ha _ _ hk.boxP (jP (by decide) (by decide)),ha _ _ hk.defer ⟨(fun _ _ e=>by cases e),(fun _ _ e=>by cases e),(fun _ _ e=>by cases e)⟩⟩
theorem EntAt.ext {w w':World} {P:Nat→Prop} {q off r:Nat} {S:List E} (h:EntAt w q off r S) (b:Ext P w w') (hq:¬P q) (d:¬P r):EntAt w' q off r S :=
 ⟨b.cell hq h.cell,h.tab.fP (b.block r h.tab.lt d)⟩
theorem ze (k:K) (v:List UInt8) (S:List E) (b:SortedE S):(jS k v S).length≤S.length+1:=by
 have:=o8 (m:=(k,v)::S) (sorted_put k v b).nodup fun x d=>by
  rcases (iY k v S x).1 d with rfl | ⟨h,-⟩
  ·exact cc
  ·exact aR _ h
 simpa using this
theorem xM (k:K) (S:List E):(ng k S).length≤S.length:=dh _ _
theorem DpS.CH {d:DpS} (o:qD) (b:SortedE d.S):SortedE (d.step o).S∧(d.step o).S.length≤d.S.length+1∧(d.step o).log.length≤d.log.length+2:=by
 obtain ⟨k,v⟩:=o
 cases v with
 | none =>
  unfold DpS.step DpS.drop
  simp only
  split
  ·exact ⟨b,dL _,dW _ _⟩
  ·exact ⟨kN k b,eF (xM k d.S),by simp⟩
 | some v =>
  unfold DpS.step DpS.put
  simp only
  split
  ·exact ⟨b,dL _,dW _ _⟩
  ·split
   ·exact ⟨sorted_put k v b,ze k v d.S b,by simp⟩
   ·exact ⟨b,dL _,by simp⟩
theorem DpS.qM:∀ {d:DpS} (os:List qD),SortedE d.S→SortedE (d.run os).S∧(d.run os).S.length≤d.S.length+os.length∧(d.run os).log.length≤d.log.length+2*os.length
 | d,[],h=>⟨h,af _,af _⟩
 | d,o::os,h=>by
  obtain ⟨h1,h2,h3⟩:=DpS.CH o h
  obtain ⟨g1,g2,g3⟩:=DpS.qM (d:=d.step o) os h1
  have e:d.run (o::os)=(d.step o).run os:=rfl
  rw [e,ar]
  exact ⟨g1,by omega,by omega⟩
def ix (S T:List E) (k:Nat):List qD:=kX (mH (S.take k) T)
theorem uT {α:Type} {o:Option α} (h:o.isSome=true):o.isNone=false:=by cases o <;> simp_all
theorem vj {α:Type} {o:Option α} (h:o.isSome=false):o.isNone=true:=by cases o <;> simp_all
theorem xE {S T:List E} {k:Nat} (hk:k<S.length) (h:(jb S[k].1 T).isSome=true):ix S T (k+1)=ix S T k:=by
 unfold ix mH
 rw [aW hk,eZ,ey (by rw [uT h];decide)]
 simp
theorem Av {S T:List E} {k:Nat} (hk:k<S.length) (h:(jb S[k].1 T).isSome=false):ix S T (k+1)=ix S T k++[(S[k].1,none)]:=by
 unfold ix mH
 rw [aW hk,eZ,fa (by exact vj h)]
 simp [kX]
theorem oV (S T:List E) (k:Nat):(ix S T k).length≤S.length:=by
 unfold ix mH kX
 rw [aG]
 exact aH (dh _ _) (by rw [aD];omega)
theorem wL (l:List E):SortedE (qj l):=by
 have key:∀ (l:List E) (S:List E),SortedE S→SortedE (l.foldl (fun S x=>jS x.1 x.2 S) S):=by
  intro l
  induction l with
  | nil=>exact fun S h=>h
  | cons x l ih=>exact fun S h=>ih _ (sorted_put _ _ h)
 exact key l [] SortedE.nil
theorem Dk {l:List E} (b:(l.map (·.1)).Nodup) (x:E):x∈qj l↔x∈l:=by
 have:=ud l [] x b
 have e:jw [] (jU l)=qj l:=by
  unfold jw jU qj
  rw [List.foldl_map]
  rfl
 rw [e] at this
 rw [this]
 simp
theorem CT {l S:List E} (b:SortedE S) (d:l.Perm S):qj l=S:=by
 have i:(l.map (·.1)).Nodup:=(d.map (·.1)).nodup_iff.2 b.keys
 exact SortedE.ext (wL l) b fun x=>by rw [Dk i,d.mem_iff]
theorem xZ {β:Type} {B r:Nat} (i:r<B) (f : β→List E):OwnFrom B (fun s W=>TabAt W r (f s)):=fun s X Y row hs d b =>
 hs.fP (d.block r hs.lt (fun e=>by obtain ⟨h1,-⟩:=b r e.symm;omega))
theorem jh {X Y:World} {row:Option Nat} {B:Nat} (d:X.grownBy Y row) (i:∀ r,row=some r→B≤r∧∃ o:Obj,X.heap[r]?=some o∧o.isCells=false) {j:Nat} {o:Obj} (b:X.heap[j]?=some o) (h:j<B∨o.isCells=true):Y.heap[j]?=some o :=
 (d.block j (fw b) fun e=>by
  obtain ⟨h1,l,h2,h3⟩:=i j e.symm
  rw [b] at h2
  cases h2
  rcases h with h | h
  ·omega
  ·rw [h] at h3;cases h3).trans b
theorem lB.tN {w X Y:World} {base h B:Nat} {x:HV} {d:DpS} {row:Option Nat} (hd:lB w base h x d X) (l:X.grownBy Y row) (q:∀ r,row=some r→B≤r∧∃ o:Obj,X.heap[r]?=some o∧o.isCells=false) (E:w.heap.size≤B) (s:x.r<B):lB w base h x d Y:=by
 obtain ⟨⟨lv,h1,h2⟩,h3⟩:=hd
 have m:∀ b,lv.ownBlock=some b→b<X.heap.size→Y.heap[b]?=X.heap[b]?:=fun b e F=>by
  obtain ⟨C,fz,u⟩:=h1.ltyp b e
  rw [jh l q u (.inr rfl),u]
 refine ⟨⟨lv,⟨jh l q h1.row (.inr rfl),h1.left,h1.dead,h1.room,h1.tab.fP ?_,h1.own.frame l.size m,h1.ltyp.frame m,h1.lo,h1.lb⟩,h2⟩,h3.trans' (T:=fun i=>row=some i) ⟨l.os,l.tape,l.output,l.size,fun j D y=>l.block j D fun e=>y e.symm⟩ fun i e => .inr (by have:=(q i e).1;omega)⟩
 obtain ⟨-,L,⟨es,cl,hm,-⟩,-⟩:=h1.tab
 exact (jh l q hm (.inl s)).trans hm.symm
theorem kY.tN {w X Y:World} {h D B:Nat} {S0:List E} {row:Option Nat} (hk:kY w h D S0 X) (b:X.grownBy Y row) (d:∀ r,row=some r→B≤r∧∃ o:Obj,X.heap[r]?=some o∧o.isCells=false) (j:w.heap.size+2≤B) (i:D<B):kY w h D S0 Y:=by
 refine ⟨hk.tab.fP ?_,jh b d hk.boxH (.inr rfl),jh b d hk.boxP (.inr rfl),jh b d hk.defer (.inl i)⟩
 obtain ⟨-,L,⟨es,cl,hm,-⟩,-⟩:=hk.tab
 exact (jh b d hm (.inl (by omega))).trans hm.symm
def kF (S T pre:List E):List qD:=ix S T S.length++jU (pZ S pre)
theorem yy (S T pre:List E) (x:E):kF S T (pre++[x])=if x∈S then kF S T pre else kF S T pre++[(x.1,some x.2)]:=by
 unfold kF pZ jU
 rw [eZ,bA,←bq]
 split
 ·rename_i h
  simp [h]
 ·rename_i h
  simp [h]
theorem BG (S T:List E):kF S T T=iQ S T:=by
 unfold kF ix iQ
 rw [bp]
theorem Ax (S T pre:List E):(kF S T pre).length≤S.length+pre.length:=by
 unfold kF
 rw [aq]
 have h1:=oV S T S.length
 have h2:(jU (pZ S pre)).length≤pre.length:=by
  unfold jU pZ
  rw [aG]
  exact dh _ _
 omega
theorem wI (base q off r h:Nat) (x:HV) (d:DpS) (T:List E) (w:World) (he:EntAt w q off r T) (hd:DpAt w base h x d) (hT:T.length≤100000000) (hS:d.S.length≤100000000) (io:d.log.length≤7500000000000) (fd:∀ y∈d.S,y.1.2.length≤fX) (fg:∀ y∈T,y.1.2.length≤fX∧y.2.length≤fX) (ip:base≤w.heap.size) (fi:q≠h) (fk:x.log.ownBlock≠some q) (fl:r≠x.r) :
  Calls Tryz.prog 160 #[.pointer (some ⟨q,off,none⟩),qE h] w fun e w'=>e = .returned (.tuple #[])∧lB w base h x (d.run (iQ d.S T)) w':=by
 have hm:=yi h
 have hn:=EW h
 have hr := @run_makeMap Tryz.prog
 unfold qE
 refine (callsIn_wide (n:=9)).1 ?_
 refine callsIn_of_wp_marks Tryz.func160 rfl cI ?_ rfl
 try simp only [Tryz.ntmps160,dy,ar,aM,Nat.reduceAdd,Nat.reduceSub,aZ,bm,bJ,dB,aO,aV]
 gi_wp2_with fail
 refine ⟨cI,(callsIn_wide.2 (Aj h _)).mono ?_⟩
 rintro e w0 ⟨rfl,rfl⟩
 gi_wp2_with fail
 have bP:=(((Boxed.new w 112 (.iface 189 (.agg #[.pointer (some ⟨h,0,none⟩)]))).alloc (.map #[] 0)).alloc (.cells #[.map (some (w.heap.size+1))] 107)).alloc (.cells #[.pointer (some ⟨h,0,none⟩)] 189)
 have tM:TabAt ((((w.alloc (.cells #[.iface 189 (.agg #[.pointer (some ⟨h,0,none⟩)])] 112)).alloc (.map #[] 0)).alloc (.cells #[.map (some (w.heap.size+1))] 107)).alloc (.cells #[.pointer (some ⟨h,0,none⟩)] 189)) (w.heap.size+1) []:=by
  have h1:=TabAt.new (w.alloc (.cells #[.iface 189 (.agg #[.pointer (some ⟨h,0,none⟩)])] 112))
  rw [ax] at h1
  exact (h1.fP (heap_alloc_old _ _ (by simp))).fP (heap_alloc_old _ _ (by simp))
 have h7:=(Boxed.new ((w.alloc (.cells #[.iface 189 (.agg #[.pointer (some ⟨h,0,none⟩)])] 112)).alloc (.map #[] 0)) 107 (.map (some (w.heap.size+1)))).alloc (.cells #[.pointer (some ⟨h,0,none⟩)] 189)
 have h8:=Boxed.new (((w.alloc (.cells #[.iface 189 (.agg #[.pointer (some ⟨h,0,none⟩)])] 112)).alloc (.map #[] 0)).alloc (.cells #[.map (some (w.heap.size+1))] 107)) 189 (.pointer (some ⟨h,0,none⟩))
 simp only [ax,aY,Nat.reduceAdd] at h7 h8
 have b4:Below w.heap.size w ((((w.alloc (.cells #[.iface 189 (.agg #[.pointer (some ⟨h,0,none⟩)])] 112)).alloc (.map #[] 0)).alloc (.cells #[.map (some (w.heap.size+1))] 107)).alloc (.cells #[.pointer (some ⟨h,0,none⟩)] 189)):=((((Below.refl _ w).alloc (af _) _).alloc (by simp) _).alloc (by simp;omega) _).alloc (by simp;omega) _
 have fn:((((w.alloc (.cells #[.iface 189 (.agg #[.pointer (some ⟨h,0,none⟩)])] 112)).alloc (.map #[] 0)).alloc (.cells #[.map (some (w.heap.size+1))] 107)).alloc (.cells #[.pointer (some ⟨h,0,none⟩)] 189)).heap.size=w.heap.size+4:=by simp
 simp only [aY,Nat.reduceAdd]
 obtain ⟨W0,d4⟩:∃ W0,(((w.alloc (.cells #[.iface 189 (.agg #[.pointer (some ⟨h,0,none⟩)])] 112)).alloc (.map #[] 0)).alloc (.cells #[.map (some (w.heap.size+1))] 107)).alloc (.cells #[.pointer (some ⟨h,0,none⟩)] 189)=W0:=⟨_,rfl⟩
 rw [d4] at bP tM h7 h8 b4 fn⊢
 clear d4
 have bL:=hd.row
 have a4:=hd.tab
 have fo:=bL.lt
 have bs:=a4.lt
 refine wpIn_rangeFunc_ownH rfl (by omega) (gf:=208) (lb:=#[.pointer (some ⟨w.heap.size+3,0,none⟩)]) rfl cI (enters_of Tryz.func208 (by kernel_rfl) rfl)
  (AM (9-1) (by omega) (w.heap.size+3) h x d.S W0 (by omega) h8.cell (bL.fP (b4.block _ fo)) (a4.fP (b4.block _ bs))) (fun h k=>kI.trans h k)
  (fun W l o o' hl G hc hw=>⟨by simp,World.putObj_heap_other (by omega),(fun k m a b c hk=>(World.putObj_heap_other (fun e=>by subst e;rw [hk] at G;cases G;cases hw)).trans hk)⟩) (Below.refl _ _) (fun _=>rfl)
  (fun pre W=>(((TabAt W (w.heap.size+1) (qj pre)∧W0.heap.size≤W.heap.size)∧Boxed W (w.heap.size+2) 107 (.map (some (w.heap.size+1))))∧Boxed W w.heap.size 112 (.iface 189 (.agg #[.pointer (some ⟨h,0,none⟩)])))∧Below w.heap.size w W)
  (fun _ _ _=>False)
  (OwnFrom.and (OwnFrom.and (OwnFrom.and (OwnFrom.and (xZ (by omega) qj) (fun s X Y row hs hg _=>aH hs hg.size)) (Own.from (boxed_own _ _ _) _)) (Own.from (boxed_own _ _ _) _)) (ownFrom_below (af _) (by omega)))
  (fun _ _ _ _ _ hs _ _=>hs)
  ⟨⟨⟨⟨tM,af _⟩,h7⟩,bP⟩,b4⟩
  (fun y a' W=>∃ Q,w.heap.size+3<Q∧W.heap[Q]?=some (.cells #[.int .i64 y.1.1,.string ⟨y.1.2.toArray⟩] 94 (0,0))∧a' = {tmps:=#[.pointer (some ⟨q,off,none⟩),.iface 189 (.agg #[.pointer (some ⟨h,0,none⟩)]),undef,.pointer (some ⟨w.heap.size,0,none⟩),.pointer (some ⟨w.heap.size+2,0,none⟩),.pointer (some ⟨Q,0,none⟩),.string ⟨y.2.toArray⟩,undef,undef,undef,undef,undef,undef,undef,undef,.map (some (w.heap.size+1)),.iface 189 (.agg #[.pointer (some ⟨h,0,none⟩)]),.func (.func 208) #[] #[.pointer (some ⟨w.heap.size+3,0,none⟩)],.agg #[.int .i64 y.1.1,.string ⟨y.1.2.toArray⟩],.string ⟨y.2.toArray⟩,undef,undef,undef,undef,undef,undef,undef,undef,undef,undef,undef,undef,undef,undef,undef,undef,undef,undef,undef,undef,undef,undef,undef,undef,undef,undef,undef,undef,undef,undef,undef,undef,undef,undef,undef,undef,undef,undef,undef,undef,undef,undef,undef,undef,undef,undef,undef,undef,undef],defers:=[]})
  (fun y a' _ X Y row hs hg hZ=>by
   obtain ⟨Q,h1,h2,h3⟩:=hs
   exact ⟨Q,h1,(hg.block Q (fw h2) (fun e=>by obtain ⟨-,o,G,hc⟩:=hZ Q e.symm;rw [h2] at G;cases G;cases hc)).trans h2,h3⟩)
  ?assign ?body ?done ?stop
 case assign =>
  rintro l pre y W K ⟨⟨⟨⟨h1,co⟩,h2⟩,h3⟩,h4⟩ hK
  unfold kV iD
  gi_wp2
  have O:Below W.heap.size W (W.alloc (.cells #[.int .i64 y.1.1,.string ⟨y.1.2.toArray⟩] 94)):=(Below.refl _ W).alloc (af _) _
  exact hK _ _ ((KeepsOthers.alloc _ _).from _) (kI.fS O (by have:=h4.size;omega)) ⟨⟨⟨⟨h1.fP (O.block _ h1.lt),by simp;omega⟩,h2.alloc _⟩,h3.alloc _⟩,h4.alloc h4.size _⟩ ⟨W.heap.size,by omega,fA W _,rfl⟩
 case body =>
  rintro l pre ⟨⟨N,J⟩,M⟩ a' W hl ⟨rr,fp⟩ ⟨⟨⟨⟨h1,co⟩,h2⟩,h3⟩,h4⟩ ⟨Q,fr,hX,rfl⟩ a5
  dsimp only at hX⊢
  have c0:=h2.cell
  have x0:=ae _ _ 0 _ _ _ hX
  have x1:=ae _ _ 1 _ _ _ hX
  obtain ⟨W1,hu,d5,bk,ht⟩:=TabAt.put (w:=W) h1 (mt:=107) Tryz.underlying107 (N,J) M
  have fv:(Instr.mapUpdate 107 (.map (some (w.heap.size+1))) (kV (N,J)) (kc M)).run Tryz.prog W = .ok () W1:=hu 0
  simp only [kV,iD,kc] at fv
  have f0:=ab d5
  have cp:=ab h1
  clear hu d5 h1
  gi_wp2
  have d6:∀ (j:Nat) (C:Array Value) (t:TypeId) (fz:Nat×Nat),W.heap[j]?=some (.cells C t fz)→W1.heap[j]?=some (.cells C t fz):=fun j C t fz hj=>(bk.block j (fw hj) (fun e=>cp.out.jC hj (by cases e;rfl))).trans hj
  have hv:=cp.out.lt
  refine ⟨⟨bk.size,fun k o hk G _=>(bk.block k (fw G) (fun e=>by cases e;omega)).trans G⟩,kI.Ev bk (by have:=h4.size;omega) (by omega) (fun m a b c e => ?_),⟨⟨⟨by rw [zY];exact f0.out,aH co bk.size⟩,d6 _ _ _ _ h2⟩,d6 _ _ _ _ h3⟩,h4.grown bk h4.size (fun j e=>by cases e;omega)⟩
  obtain ⟨-,L,⟨es,cl,f1,-⟩,-⟩:=cp.out
  rw [f1] at e
  cases e
 case done =>
  rintro D ys W i0 d7 ⟨⟨⟨⟨h1,co⟩,h2⟩,h3⟩,h4⟩ hK
  rw [CT a4.sorted d7] at h1
  have f2:=h1.lt
  have hx:=h4.size
  have a0:Below W.heap.size W (W.alloc (.cells #[.map (some (w.heap.size+1))] 107)):=(Below.refl _ W).alloc (af _) _
  have d8:=ab (mO W.heap.size (w.heap.size+1) d.S (W.alloc (.cells #[.map (some (w.heap.size+1))] 107)) (by simp) (ae _ _ 0 _ _ _ (fA W (.cells #[.map (some (w.heap.size+1))] 107))) (h1.fP (a0.block _ f2)) (by omega))
  have c0:=h2.cell
  gi_wp2_with (first
   | (refine ⟨cI,(callsIn_wide.2 (qw (w.heap.size+1) W)).mono ?_⟩;rintro e w0 ⟨rfl,rfl⟩)
   | (refine ⟨cI,(callsIn_wide.2 d8.out).mono ?_⟩;rintro e w1 ⟨v,rfl,b5,cq⟩;obtain ⟨sa,av,rfl,-,-⟩:=b5.opened;rw [aG] at *))
  have cr:Below w.heap.size w w1:=(h4.GV a0).trans (cq.mono (h4.GV a0).size)
  have f4:=cr.size
  have hmx:d.S.length≤av:=by obtain ⟨a',c',e,h,-⟩:=b5.opened;obtain ⟨-,-,rfl⟩:=Value.slice.inj e;simpa using h
  have O:Below W.heap.size W w1:=a0.trans (cq.mono (by simp))
  have bN:=ab ((lB.start (w:=w) hd).below cr)
  have bO:=ab ((kY.mk (w:=w) (h:=h) (D:=D) (S0:=d.S) h1 h2 h3 hK).below O)
  have f5:=ab b5
  have ct:=ab a4.sorted
  have d9:q≠x.r:=fun e=>by
   have:=me he.cell a4
   exact this e
  have eb:r≠h:=fun e=>he.tab.jC bL e.symm
  have ec:x.log.ownBlock≠some r:=hd.ltyp.o9 he.tab
  have b6:Hid (¬(q=h∨q=x.r∨x.log.ownBlock=some q)):=ab (fun e=>by rcases e with e | e | e;exact fi e;exact d9 e;exact fk e)
  have br:Hid (¬(r=h∨r=x.r∨x.log.ownBlock=some r)):=ab (fun e=>by rcases e with e | e | e;exact eb e;exact fl e;exact ec e)
  have HE:=ab he
  have hy:=Ed h
  have hz:=yP h
  clear b5 h1 h2 h3 hK c0 d8 cq O h8 h7 tM bP d9 eb ec d7 a0
  gi_loopw [28] (fun i wr=>∃ k:Nat,k≤d.S.length∧i = .int .i64 (k:Int)∧lB w base h x (d.run (ix d.S T k)) wr∧kY w h D d.S wr∧lp wr (.slice sa d.S.length av) (d.S.map (·.1))) (fun i _=>d.S.length-(intOf i).toNat)
  case atStart=>exact ⟨0,aK _,rfl,bN.out,bO.out,f5.out⟩
  case round =>
   obtain ⟨k,hk,rfl,bv,b7,b8⟩:=hrel
   by_cases a5:k<d.S.length
   ·have g1:(k:Int)<d.S.length:=by omega
    obtain ⟨hA,g2,e,-,h9⟩:=b8.opened
    obtain ⟨rfl,-,rfl⟩:=Value.slice.inj e
    obtain ⟨cu,ko,rfl,c0,c1⟩:=h9 k (by simpa using a5)
    obtain ⟨y,bl⟩:∃ y,y=d.S[k]:=⟨_,rfl⟩
    rw [eL,←bl] at c0 c1
    have ed:y∈d.S:=by rw [bl];exact cL a5
    have eg:=fd y ed
    obtain ⟨⟨KT,KB⟩,VB⟩:=y
    simp only at c0 c1 eg
    have f7:Hid ((jb (KT,KB) T).isSome=true→ix d.S T (k+1)=ix d.S T k):=ab (fun h=>xE a5 (by rw [←bl];exact h))
    have e5:Hid ((jb (KT,KB) T).isSome=false→ix d.S T (k+1)=ix d.S T k++[((KT,KB),none)]):=ab (fun h=>by have:=Av a5 (T:=T) (by rw [←bl];exact h);rw [←bl] at this;exact this)
    have bn:=ab (HE.out.ext bv.ext b6.out br.out)
    have ej:=bn.out.cell
    have f8:=fE ej
    have f9:=fE c0
    have el:Below wr.heap.size wr (wr.alloc (.cells #[.int .i64 KT,.string ⟨KB.toArray⟩] 94)):=(Below.refl _ wr).alloc (af _) _
    have ak:=ab el
    have bw:=ab bv
    have a1:=ab b7
    have ga:=ab b8
    clear bv b7 b8 hk bl ed el h9
    gi_wp2
    obtain ⟨wa,cv⟩:∃ wa,wa=wr.alloc (.cells #[.int .i64 KT,.string ⟨KB.toArray⟩] 94):=⟨_,rfl⟩
    rw [←cv] at ak⊢
    have ca:Hid (wa.heap[wr.heap.size]?=some (.cells #[.int .i64 KT,.string ⟨KB.toArray⟩] 94 (0,0))):=ab (by rw [cv];exact fA _ _)
    have cb:=ab (bn.out.below ak.out)
    have hB:wr.heap.size<wa.heap.size:=fw ca.out
    clear cv c0 c1 ej f8 f9
    have em:=cb.out.cell
    have e6:=fE em
    have d0:=ae _ _ 0 _ _ _ ca.out
    have d1:=ae _ _ 1 _ _ _ ca.out
    have aa:=TabAt.jW (w:=wa.drew) (cb.out.tab.fP rfl) (mt:=107) Tryz.underlying107 (qH _) (KT,KB)
    simp only [kV,iD,kc] at aa
    obtain ⟨bt,a7⟩:∃ bt,bt=(jb (KT,KB) T).isSome:=⟨_,rfl⟩
    rw [←a7] at aa
    have bo:=ab a7
    clear a7
    have a9:=fun o=>TabAt.jW (w:=(wa.alloc o).drew) (cb.out.tab.fP (heap_alloc_old _ _ cb.out.tab.lt)) (mt:=107) Tryz.underlying107 (qH _) (KT,KB)
    simp only [kV,iD,kc] at a9
    rw [←bo.out] at a9
    gi_region
    obtain ⟨w9,ce⟩:∃ w9,w9=(wa.alloc (.cells #[.string ⟨((jb (KT,KB) T).getD []).toArray⟩] 180)).drew:=⟨_,rfl⟩
    rw [←ce]
    have cB:Hid (Below wr.heap.size wr w9):=ab (by rw [ce];exact (ak.out.alloc ak.out.size _).drew)
    have c2:Hid (w9.heap[wr.heap.size]?=some (.cells #[.int .i64 KT,.string ⟨KB.toArray⟩] 94 (0,0))):=ab (by rw [ce];exact fG _ _ ca.out)
    have c3:=ab (bw.out.below cB.out)
    have bX:=ab (a1.out.below cB.out)
    have c4:Hid (lp w9 (.slice (some ⟨cu,ko,none⟩) d.S.length av) (d.S.map (·.1))):=ab ((ga.out).kept (x:=w.heap.size) (y:=w.heap.size) (z:=w.heap.size) (gC.fS cB.out a1.out.boxP.lt a1.out.boxP.lt a1.out.boxP.lt))
    clear ce aa a9 d0 d1 em e6
    have ii:=bX.out.boxP.cell
    have d0:=ae _ _ 0 _ _ _ c2.out
    have d1:=ae _ _ 1 _ _ _ c2.out
    have hC:=fw c2.out
    cases bt with
    | true =>
     have c5:=ab (f7.out bo.out.symm)
     gi_wp2
     have al:∃ k':Nat,k'≤d.S.length∧Value.int .i64 ((k:Int)+1) = .int .i64 (k':Int)∧lB w base h x (d.run (ix d.S T k')) w9∧kY w h D d.S w9∧lp w9 (.slice (some ⟨cu,ko,none⟩) d.S.length av) (d.S.map (·.1)):=⟨k+1,by omega,rfl,by rw [c5.out];exact c3.out,bX.out,c4.out⟩
     simp only [aG]
     refine ⟨?_,?_⟩
     ·first
       | exact al
       | ((repeat apply Exists.intro);exact ⟨al,rfl⟩)
     ·simp [intOf]
      omega
    | false =>
     have c5:=ab (e5.out bo.out.symm)
     obtain ⟨⟨lv,am,R⟩,F⟩:=c3.out
     obtain ⟨gb,gc,ge⟩:=DpS.qM (d:=d) (ix d.S T k) ct.out
     have gg:=oV d.S T k
     have en:=ab (fun W (O:Below w9.heap.size w9 W)=>Be base h {x with left:=(d.run (ix d.S T k)).left,dead:=(d.run (ix d.S T k)).dead,log:=lv} (d.run (ix d.S T k)) KT KB W (am.below O) (by have:=F.size;have:=O.size;omega) (by omega) eg)
     gi_wp2_with fail
     refine ⟨cI,(callsIn_wide.2 (en.out w9 (Below.refl _ _))).mono ?_⟩
     rintro e w' hY
     obtain ⟨ag,I,ap⟩:=lB.step R am F hY
     obtain ⟨rfl,-⟩:=hY
     have HG:=ab ag
     have bb:=ab (bX.out.aside bs I)
     have e7:=ab (c4.out.aside I)
     clear ag I ap am R F ii d0 d1 en
     gi_wp2
     have al:∃ k':Nat,k'≤d.S.length∧Value.int .i64 ((k:Int)+1) = .int .i64 (k':Int)∧lB w base h x (d.run (ix d.S T k')) w'∧kY w h D d.S w'∧lp w' (.slice (some ⟨cu,ko,none⟩) d.S.length av) (d.S.map (·.1)):=⟨k+1,by omega,rfl,by rw [c5.out,DpS.qW];exact HG.out,bb.out,e7.out⟩
     simp only [aG]
     refine ⟨?_,?_⟩
     ·first
       | exact al
       | ((repeat apply Exists.intro);exact ⟨al,rfl⟩)
     ·simp [intOf]
      omega
   ·obtain rfl:k=d.S.length:=by omega
    have g1:¬(d.S.length:Int)<d.S.length:=by omega
    have bw:=ab bv
    have a1:=ab b7
    clear bv b7 b8 hk a5
    gi_wp2_with fail
    refine ⟨cI,(callsIn_wide.2 (qx q off _)).mono ?_⟩
    rintro e w2 ⟨rfl,rfl⟩
    gi_wp2_with fail
    have gl:T.length≤1000000000:=by omega
    have hD:=bw.out.ext.size
    have hE:=a1.out.boxH.lt
    have g9:=fw a1.out.defer
    have ak:Hid (Below wr.heap.size wr (wr.alloc (.cells #[.pointer (some ⟨q,off,none⟩)] 173))):=ab ((Below.refl _ wr).alloc (af _) _)
    have bn:=ab (HE.out.ext bw.out.ext b6.out br.out)
    have er:Hid ((wr.alloc (.cells #[.pointer (some ⟨q,off,none⟩)] 173)).cell? ⟨wr.heap.size,0,none⟩=some (.pointer (some ⟨q,off,none⟩))):=ab (ae _ _ 0 _ _ _ (fA wr (.cells #[.pointer (some ⟨q,off,none⟩)] 173)))
    have c7:Hid ((wr.alloc (.cells #[.pointer (some ⟨q,off,none⟩)] 173)).heap[wr.heap.size]?=some (.cells #[.pointer (some ⟨q,off,none⟩)] 173 (0,0))):=ab (fA wr _)
    obtain ⟨W1,c8⟩:∃ W1,W1=wr.alloc (.cells #[.pointer (some ⟨q,off,none⟩)] 173):=⟨_,rfl⟩
    have f4:W1.heap.size=wr.heap.size+1:=by rw [c8];simp
    rw [←c8] at ak er c7⊢
    clear c8
    have gn:=ab (bn.out.below ak.out)
    have bN:=ab (bw.out.below ak.out)
    have bO:=ab (a1.out.below ak.out)
    have hb:=bn.out.lt
    have hf:=bn.out.tab.lt
    have h0:kF d.S T []=ix d.S T d.S.length:=by unfold kF pZ jU;simp
    refine wpIn_rangeFunc_ownH rfl (by omega) (gf:=90) (lb:=#[.pointer (some ⟨wr.heap.size,0,none⟩)]) rfl cI (enters_of Tryz.func90 (by kernel_rfl) rfl)
     (mR (Subtype.val : {x:E // x∈T}→E) T.attach (9-1) wr.heap.size q off r T (dV T) W1 (by omega) er.out gn.out gl) (fun h k=>gC.trans h k)
     (fun W l o o' hl G hc hw=>⟨by simp,fun k hk=>World.putObj_heap_other (by rcases hk with rfl | rfl | rfl <;> omega),fun k cs fz hk=>(World.putObj_heap_other (fun e=>by subst e;rw [hk] at G;cases G;cases hc)).trans hk⟩) (Below.refl _ _) (fun _=>rfl)
     (fun (pre:List {x:E // x∈T}) W=>lB w base h x (d.run (kF d.S T (pre.map Subtype.val))) W∧kY w h D d.S W∧W1.heap.size≤W.heap.size∧W.heap[wr.heap.size]?=some (.cells #[.pointer (some ⟨q,off,none⟩)] 173 (0,0)))
     (fun _ _ _=>False)
     (fun s X Y row hs hg hZ=>⟨hs.1.tN hg hZ (by omega) (by omega),hs.2.1.tN hg hZ (by omega) (by omega),aH hs.2.2.1 hg.size,jh hg hZ hs.2.2.2 (.inr rfl)⟩)
     (fun _ _ _ _ _ hs _ _=>hs)
     ⟨by rw [di,h0];exact bN.out,bO.out,af _,c7.out⟩
     (fun y a' V=>∃ Q,w.heap.size+3<Q∧V.heap[Q]?=some (.cells #[.int .i64 y.1.1.1,.string ⟨y.1.1.2.toArray⟩] 94 (0,0))∧a' = {tmps:=#[.pointer (some ⟨q,off,none⟩),.iface 189 (.agg #[.pointer (some ⟨h,0,none⟩)]),undef,.pointer (some ⟨w.heap.size,0,none⟩),.pointer (some ⟨w.heap.size+2,0,none⟩),undef,undef,undef,u8,u9,u10,.pointer (some ⟨Q,0,none⟩),.string ⟨y.1.2.toArray⟩,undef,undef,.map (some (w.heap.size+1)),.iface 189 (.agg #[.pointer (some ⟨h,0,none⟩)]),.func (.func 208) #[] #[.pointer (some ⟨w.heap.size+3,0,none⟩)],undef,undef,undef,undef,undef,undef,.map (some (w.heap.size+1)),.func (.func 131) #[] #[.pointer (some ⟨W.heap.size,0,none⟩)],.slice sa d.S.length av,.int .i64 (d.S.length:Int),.int .i64 (d.S.length:Int),.bool false,u30,u31,u32,u33,u34,u35,u36,u37,u38,u39,u40,u41,u42,u43,u44,u45,u46,.pointer (some ⟨q,off,none⟩),.func (.func 90) #[] #[.pointer (some ⟨wr.heap.size,0,none⟩)],.agg #[.int .i64 y.1.1.1,.string ⟨y.1.1.2.toArray⟩],.string ⟨y.1.2.toArray⟩,undef,undef,undef,undef,undef,undef,undef,undef,undef,undef,undef,undef,undef,undef,undef,undef,undef,undef],defers:=[]})
     (fun y a' _ X Y row hs hg hZ=>by
      obtain ⟨Q,h1,h2,h3⟩:=hs
      exact ⟨Q,h1,jh hg hZ h2 (.inr rfl),h3⟩)
     ?assign2 ?body2 ?done2 ?stop2
    case assign2 =>
     rintro l pre y V K ⟨h1,h2,h3,h4⟩ hK
     unfold kV iD
     gi_wp2
     have O:Below V.heap.size V (V.alloc (.cells #[.int .i64 y.1.1.1,.string ⟨y.1.1.2.toArray⟩] 94)):=(Below.refl _ V).alloc (af _) _
     exact hK _ _ ((KeepsOthers.alloc _ _).from _) (gC.fS O (by omega) (by omega) (by omega)) ⟨h1.below O,h2.below O,by simp;omega,fG V _ h4⟩ ⟨V.heap.size,by omega,fA V _,rfl⟩
    case body2 =>
     rintro l bc ⟨⟨⟨N,J⟩,M⟩,eD⟩ a' V hl ⟨rr,fp⟩ ⟨h1,h2,h3,h4⟩ ⟨Q,fr,hX,rfl⟩ a5
     dsimp only at hX⊢
     have ci:Hid ((bc++[(⟨((N,J),M),eD⟩ : {x:E // x∈T})]).map Subtype.val=bc.map Subtype.val++[((N,J),M)]):=ab (by simp)
     have d3:(bc.map Subtype.val).length=bc.length:=aG _
     obtain ⟨pre,c9⟩:∃ pre,pre=bc.map Subtype.val:=⟨_,rfl⟩
     rw [←c9] at h1 ci d3
     clear c9
     have c0:=h2.boxH.cell
     have p0:=h2.boxP.cell
     have x0:V.cell? ⟨Q,0,none⟩=some (.int .i64 N):=ae _ _ 0 _ _ _ hX
     have x1:V.cell? ⟨Q,1,none⟩=some (.string ⟨J.toArray⟩):=ae _ _ 1 _ _ _ hX
     have aa:=TabAt.jW (w:=V) h2.tab (mt:=107) Tryz.underlying107 (qH _) (N,J)
     simp only [kV,iD,kc] at aa
     obtain ⟨bt,a7⟩:∃ bt,bt=(jb (N,J) d.S).isSome:=⟨_,rfl⟩
     obtain ⟨ov,bz⟩:∃ ov,ov=(jb (N,J) d.S).getD []:=⟨_,rfl⟩
     rw [←a7,←bz] at aa
     have bo:=ab a7
     have go:=ab bz
     have H1:=ab h1
     have H2:=ab h2
     have HX:=ab hX
     have hh:=fw hX
     have hG:=h2.boxP.lt
     clear a7 bz h1 h2 hX
     have hH:=Ft h
     have hI:=Bo h
     have da:=ab (yy d.S T pre ((N,J),M))
     have hJ:pre.length≤100000000:=by omega
     have b1:Hid (((N,J),M)∈d.S↔jb (N,J) d.S=some M):=ab (nj ct.out.keys (N,J) M).symm
     have eS:J.length≤fX∧M.length≤fX:=fg ((N,J),M) eD
     obtain ⟨gb,gc,ge⟩:=DpS.qM (d:=d) (kF d.S T pre) ct.out
     have gg:=Ax d.S T pre
     obtain ⟨⟨lv,am,R⟩,F⟩:=H1.out
     have u:Hid (Below V.heap.size V (V.alloc (.cells #[.string ⟨ov.toArray⟩] 180))):=ab ((Below.refl _ V).alloc (af _) _)
     have eT:=ab (fun U (eV:Below V.heap.size V U)=>CR base h {x with left:=(d.run (kF d.S T pre)).left,dead:=(d.run (kF d.S T pre)).dead,log:=lv} (d.run (kF d.S T pre)) N J M U (am.below eV) (by have:=F.size;have:=eV.size;omega) (by omega) eS.1 eS.2 (by omega))
     have bD:Hid ((∃ o,V.heap[wr.heap.size]?=some o∧Aside x.r wr.heap.size o)∧q<w.heap.size∧r<w.heap.size∧x.r<w.heap.size):=ab ⟨⟨_,h4,jP (by decide) (by decide)⟩,HE.out.lt,HE.out.tab.lt,bs⟩
     cases bt with
     | false =>
      have b2:Hid (¬((N,J),M)∈d.S):=ab fun hm=>by
       have h1:=b1.out.1 hm
       have h2:=bo.out
       rw [h1] at h2
       cases h2
      gi_wp2_with fail
      refine ⟨cI,(callsIn_wide.2 (eT.out _ u.out)).mono ?_⟩
      rintro e w' hY
      obtain ⟨ag,I,ap⟩:=lB.step R (am.below u.out) (F.trans (Ext.fD u.out)) hY
      obtain ⟨rfl,gp,-,bH,-⟩:=hY
      have Z:∀ k,k=wr.heap.size∨k=q∨k=r→w'.heap[k]?=V.heap[k]?:=fun k hk=>by
       obtain ⟨⟨o,G,dc⟩,e1,e2,e3⟩:=bD.out
       have gq:=F.size
       rcases hk with rfl | rfl | rfl
       ·rw [I _ o (fy u.out (fw G) G) dc,G]
       ·refine (bH.block _ (by have:=u.out.size;omega) fun e=>b6.out ?_).trans (u.out.block _ (by omega))
        rcases e with e | e | e
        ·exact .inl e
        ·exact .inr (.inl e)
        ·exact .inr (.inr ((R _ e).elim id (fun h=>by omega)))
       ·refine (bH.block _ (by have:=u.out.size;omega) fun e=>br.out ?_).trans (u.out.block _ (by omega))
        rcases e with e | e | e
        ·exact .inl e
        ·exact .inr (.inl e)
        ·exact .inr (.inr ((R _ e).elim id (fun h=>by omega)))
      have HG:=ab ag
      have bb:=ab ((H2.out.below u.out).aside bs I)
      have bI:Hid (gC wr.heap.size q r V w'):=ab ⟨aH u.out.size ap,fun k hk=>Z k hk,fun k cs fz hk=>I k _ (fy u.out (fw hk) hk) (jP (by decide) (by decide))⟩
      have dk:Hid (KeepsFrom W1.heap.size V w'):=ab ⟨aH u.out.size ap,fun k o hk G hc=>I k o (fy u.out (fw G) G) ⟨(fun C fz e=>by rw [e] at hc;cases hc),(fun C fz e=>by rw [e] at hc;cases hc),(fun es cl e=>by omega)⟩⟩
      have e9:=bI.out.size
      clear ag I ap am R F
      gi_wp2
      refine ⟨dk.out,bI.out,?_,bb.out,by omega,(Z _ (.inl rfl)).trans h4⟩
      rw [ci.out,da.out,au b2.out,DpS.qW]
      exact HG.out
     | true =>
      obtain ⟨v0,dl⟩:∃ v0,jb (N,J) d.S=some v0:=cy.1 bo.out.symm
      have bz:ov=v0:=by have:=go.out;rw [dl] at this;exact this
      subst bz
      have e0:=ab dl
      clear dl
      by_cases heq:ov=M
      ·have gs:Hid (((N,J),M)∈d.S):=ab (b1.out.2 (by rw [e0.out,heq]))
       subst heq
       have gt:((⟨ov.toArray⟩:ByteArray)==⟨ov.toArray⟩)=true:=(cM _ _).2 rfl
       have hL:((⟨ov.toArray⟩:ByteArray) != ⟨ov.toArray⟩)=false:=by rw [bne,gt];rfl
       gi_wp2
       refine ⟨⟨u.out.size,fun k o hk G hc=>fy u.out (fw G) G⟩,gC.fS u.out (by have:=bD.out.1;obtain ⟨o,G,-⟩:=this;exact fw G) (by have:=bD.out.2.1;have:=F.size;omega) (by have:=bD.out.2.2.1;have:=F.size;omega),?_,H2.out.below u.out,by have:=u.out.size;omega,fy u.out (fw h4) h4⟩
       rw [ci.out,da.out,aB gs.out]
       exact H1.out.below u.out
      ·have b2:Hid (¬((N,J),M)∈d.S):=ab fun hm=>by
        have h1:=b1.out.1 hm
        rw [e0.out] at h1
        exact heq (Option.some.inj h1)
       have ho:((⟨ov.toArray⟩:ByteArray)==⟨M.toArray⟩)=false:=by
        cases gu:((⟨ov.toArray⟩:ByteArray)==⟨M.toArray⟩) with
        | false=>rfl
        | true =>
         have e:=(cM _ _).1 gu
         exact absurd (by injection e with e;simpa using e) heq
       have fb:(ov==M)=false:=aC.2 heq
       have hp:(!(ov==M))=true:=by rw [fb];rfl
       gi_wp2_with fail
       refine ⟨cI,(callsIn_wide.2 (eT.out _ u.out)).mono ?_⟩
       rintro e w' hY
       obtain ⟨ag,I,ap⟩:=lB.step R (am.below u.out) (F.trans (Ext.fD u.out)) hY
       obtain ⟨rfl,gp,-,bH,-⟩:=hY
       have Z:∀ k,k=wr.heap.size∨k=q∨k=r→w'.heap[k]?=V.heap[k]?:=fun k hk=>by
        obtain ⟨⟨o,G,dc⟩,e1,e2,e3⟩:=bD.out
        have gq:=F.size
        rcases hk with rfl | rfl | rfl
        ·rw [I _ o (fy u.out (fw G) G) dc,G]
        ·refine (bH.block _ (by have:=u.out.size;omega) fun e=>b6.out ?_).trans (u.out.block _ (by omega))
         rcases e with e | e | e
         ·exact .inl e
         ·exact .inr (.inl e)
         ·exact .inr (.inr ((R _ e).elim id (fun h=>by omega)))
        ·refine (bH.block _ (by have:=u.out.size;omega) fun e=>br.out ?_).trans (u.out.block _ (by omega))
         rcases e with e | e | e
         ·exact .inl e
         ·exact .inr (.inl e)
         ·exact .inr (.inr ((R _ e).elim id (fun h=>by omega)))
       have HG:=ab ag
       have bb:=ab ((H2.out.below u.out).aside bs I)
       have bI:Hid (gC wr.heap.size q r V w'):=ab ⟨aH u.out.size ap,fun k hk=>Z k hk,fun k cs fz hk=>I k _ (fy u.out (fw hk) hk) (jP (by decide) (by decide))⟩
       have dk:Hid (KeepsFrom W1.heap.size V w'):=ab ⟨aH u.out.size ap,fun k o hk G hc=>I k o (fy u.out (fw G) G) ⟨(fun C fz e=>by rw [e] at hc;cases hc),(fun C fz e=>by rw [e] at hc;cases hc),(fun es cl e=>by omega)⟩⟩
       have e9:=bI.out.size
       clear ag I ap am R F
       gi_wp2
       refine ⟨dk.out,bI.out,?_,bb.out,by omega,(Z _ (.inl rfl)).trans h4⟩
       rw [ci.out,da.out,au b2.out,DpS.qW]
       exact HG.out
    case done2 =>
     rintro D2 ys V gv rfl ⟨h1,h2,h3,h4⟩ a0
     have gz:=h2.defer
     have g0:D≠D2:=by omega
     have hM:=h1.ext.size
     rw [dV,BG] at h1
     have ag:V.grownBy (V.putObj D2 (.deferred none)) (some D2):=grownBy_putObj' V D2 _
     have h5:=h1.tN (B:=W1.heap.size) ag (fun r e=>by cases e;exact ⟨gv,_,a0,rfl⟩) (by omega) (by omega)
     have dn:(V.putObj D2 (.deferred none)).heap[D]?=some (.deferred (some [])):=(World.putObj_heap_other g0).trans gz
     have I:(V.putObj D2 (.deferred none)).grownBy ((V.putObj D2 (.deferred none)).putObj D (.deferred none)) (some D):=grownBy_putObj' _ D _
     have h6:=h5.tN (B:=w.heap.size+1) I (fun r e=>by cases e;exact ⟨by omega,_,dn,rfl⟩) (by omega) (by omega)
     refine ⟨by simp,.inl ⟨_,_,rfl,run_takeDeferred a0,by simp,.inl ⟨_,_,rfl,run_takeDeferred dn,?_⟩⟩⟩
     exact ⟨_,dA rfl _ _ _,rfl,h6⟩
    case stop2 =>
     rintro D c pre W _ _ h _
     exact h.elim
 case stop =>
  rintro D c pre W _ _ h _
  exact h.elim
end Go.Proofs.YtkkfmkhbdoeglaaGreatDoor
