/- A part of what is proved here: lemmas and contracts of single functions. No condition but those that each names. -/
import Derived.Test.YtkkfmkhbdoeglabGreatDoorG00
import Derived.Test.YtkkfmkhbdoeglabGreatDoorG18
import Derived.Test.YtkkfmkhbdoeglabGreatDoorG21
import Derived.Test.YtkkfmkhbdoeglabGreatDoorG22
set_option maxHeartbeats 4000000
set_option maxRecDepth 100000
namespace Go.Proofs.YtkkfmkhbdoeglabGreatDoor
open Go.RowKit Go.Shelf
def rY (h:Nat):Value := .iface 116 (.agg #[.pointer (some ⟨h,0,none⟩)])
theorem Gj (h : Nat) (w : World) : (nilAhead 470 116 (.agg #[.pointer (some ⟨h, 0, none⟩)]) "Room").run Tryz.prog w = .ok (some false) w := by kernel_rfl
theorem AY (h : Nat) (w : World) : (method 470 116 (.agg #[.pointer (some ⟨h, 0, none⟩)]) "Room").run Tryz.prog w = .ok (103, .agg #[.pointer (some ⟨h, 0, none⟩)]) w := by kernel_rfl
def qp (S:List E) (room:Nat→Int):Int:=match overS S room with
 | some t=>(t:Int)
 | none => -1
theorem Gs {S:List E} {room:Nat→Int} {k:Nat} (h3:k<3) (hle:∀ t:Nat,t<k→(countS (t:Int) S:Int)≤room t) (b:room k<(countS (k:Int) S:Int)):qp S room=(k:Int):=by
 unfold qp overS
 obtain rfl | rfl | rfl:k=0∨k=1∨k=2:=by omega
 ·have h:room 0<(countS 0 S:Int):=b
  rw [aD h]
 ·have d:(countS 0 S:Int)≤room 0:=hle 0 (by omega)
  have h:room 1<(countS 1 S:Int):=b
  rw [au (eU.2 d),aD h]
 ·have d:(countS 0 S:Int)≤room 0:=hle 0 (by omega)
  have h1:(countS 1 S:Int)≤room 1:=hle 1 (by omega)
  have h:room 2<(countS 2 S:Int):=b
  rw [au (eU.2 d),au (eU.2 h1),aD h]
theorem C7 {S:List E} {room:Nat→Int} (hle:∀ t:Nat,t<3→(countS (t:Int) S:Int)≤room t):qp S room = -1:=by
 have b:(countS 0 S:Int)≤room 0:=hle 0 (by omega)
 have h1:(countS 1 S:Int)≤room 1:=hle 1 (by omega)
 have h2:(countS 2 S:Int)≤room 2:=hle 2 (by omega)
 unfold qp overS
 rw [au (eU.2 b),au (eU.2 h1),au (eU.2 h2)]
theorem _root_.Go.RowKit.Below.Jr {w a b:World} (h:Below w.heap.size w a) (k:Below a.heap.size a b):Below w.heap.size w b:=h.trans (k.mono h.size)
theorem EntAt.Jg {w w':World} {q off r:Nat} {S:List E} (h:EntAt w q off r S) (b:Below w.heap.size w w'):EntAt w' q off r S:=h.below b
theorem Bj (q off r h:Nat) (x:HV) (S:List E) (w:World) (he:EntAt w q off r S) (F:HostIs w h x) (hl:S.length≤1000000000) :
  Calls Tryz.prog 106 #[.pointer (some ⟨q,off,none⟩),rY h] w fun e w'=>e = .returned (.int .i64 (qp S x.room))∧Below w.heap.size w w':=by
 have N:=ab he
 have G:=ab F
 clear he F
 have Q:=Gj h
 have hm:=AY h
 unfold rY
 go_enter Tryz.func106,Tryz.ntmps106
 go_wp2
 go_loopw [6] (fun i wr=>∃ k:Nat,k≤3∧i = .int .i64 k∧(∀ t,t<k→(countS t S:Int)≤x.room t)∧Below w.heap.size w wr) (fun i _=>3-(intOf i).toNat)
 case atStart=>exact ⟨0,by omega,rfl,(fun t O=>by omega),Below.refl _ _⟩
 case round =>
  obtain ⟨k,hk,rfl,hle,j⟩:=hrel
  by_cases h3:k<3
  ·have I:(k:Int)<3:=by omega
   have l:=ab hle
   clear hle
   have m:x.room k=if 0≤(k:Int)∧(k:Int)<3 then x.room (k:Int).toNat else 0:=by rw [aD ⟨by omega,I⟩];rfl
   have J:=ab m
   obtain ⟨y,o⟩:∃ y,y=x.room k:=⟨_,rfl⟩
   obtain ⟨B,hcv⟩:∃ B,B=countS (k:Int) S:=⟨_,rfl⟩
   have C:=ab o
   have D:=ab hcv
   clear m o hcv
   go_wp2_with fail
   refine (En q off r S (k:Int) wr (N.out.Jg j) hl).mono ?_
   rintro e w1 ⟨rfl,d⟩
   rw [←D.out]
   go_wp2_with fail
   refine (Bq h x (k:Int) w1 (G.out.gr ((j.Jr d).block h G.out.lt))).mono ?_
   rintro e w2 ⟨rfl,s⟩
   rw [←J.out,←C.out]
   have u:Below w.heap.size w w2:=(j.Jr d).trans (s.mono (j.Jr d).size)
   clear d s
   by_cases b:y<(B:Int)
   ·go_wp2
    go_ret
    refine ⟨?_,u⟩
    have e:qp S x.room=(k:Int):=by
     rw [C.out,D.out] at b
     exact Gs h3 l.out b
    rw [e]
    rfl
   ·go_wp2
    go_roundw
    case rel =>
     refine ⟨k+1,by omega,by go_num,fun t O => ?_,u⟩
     by_cases e:t=k
     ·subst e
      rw [C.out,D.out] at b
      first | exact b | exact eU.1 b
     ·exact l.out t (by omega)
    case measure=>simp [intOf];omega
  ·obtain rfl:k=3:=by omega
   have e:qp S x.room = -1:=C7 hle
   have M:=ab e
   clear e hle
   go_wp2
   go_ret
   exact ⟨by rw [M.out];rfl,j⟩
end Go.Proofs.YtkkfmkhbdoeglabGreatDoor
namespace Go.Proofs.YtkkfmkhbdoeglabGreatDoor
open Go.RowKit Go.Shelf
attribute [local go_sem] Oper.semAt_some
theorem Gi (h : Nat) (w : World) : (nilAhead 470 116 (.agg #[.pointer (some ⟨h, 0, none⟩)]) "Dump").run Tryz.prog w = .ok (some false) w := by kernel_rfl
theorem AX (h : Nat) (w : World) : (method 470 116 (.agg #[.pointer (some ⟨h, 0, none⟩)]) "Dump").run Tryz.prog w = .ok (243, .agg #[.pointer (some ⟨h, 0, none⟩)]) w := by kernel_rfl
theorem Gh (h : Nat) (w : World) : (nilAhead 470 116 (.agg #[.pointer (some ⟨h, 0, none⟩)]) "Drop").run Tryz.prog w = .ok (some false) w := by kernel_rfl
theorem AW (h : Nat) (w : World) : (method 470 116 (.agg #[.pointer (some ⟨h, 0, none⟩)]) "Drop").run Tryz.prog w = .ok (242, .agg #[.pointer (some ⟨h, 0, none⟩)]) w := by kernel_rfl
theorem Hy (h : Nat) (w : World) : (nilAhead 470 116 (.agg #[.pointer (some ⟨h, 0, none⟩)]) "Put").run Tryz.prog w = .ok (some false) w := by kernel_rfl
theorem CX (h : Nat) (w : World) : (method 470 116 (.agg #[.pointer (some ⟨h, 0, none⟩)]) "Put").run Tryz.prog w = .ok (60, .agg #[.pointer (some ⟨h, 0, none⟩)]) w := by kernel_rfl
def gV (l:List E):List E:=l.foldl (fun S x=>ke x.1 x.2 S) []
theorem wE (l:List E) (x:E):gV (l++[x])=ke x.1 x.2 (gV l):=by simp [gV]
structure ml (w:World) (base h:Nat) (x:HV) (d:DpS) (wr:World):Prop where
 at_:∃ lv,DpAt wr base h {x with left:=d.left,dead:=d.dead,log:=lv} d∧(∀ i,lv.ownBlock=some i→x.log.ownBlock=some i∨w.heap.size≤i)
 ext:Ext (fun i=>i=h∨i=x.r∨x.log.ownBlock=some i) w wr
def Aside (r:Nat) (j:Nat) (o:Obj):Prop:=(∀ C fz,o≠.cells C 9 fz)∧(∀ C fz,o≠.cells C 125 fz)∧(∀ es cl,o = .map es cl→j≠r)
theorem ml.start {w:World} {base h:Nat} {x:HV} {d:DpS} (hd:DpAt w base h x d):ml w base h x d w:=by
 refine ⟨⟨x.log,?_,fun i e => .inl e⟩,Ext.refl _ _⟩
 have e:({x with left:=d.left,dead:=d.dead,log:=x.log} : HV)=x:=by
  rw [←hd.left,←hd.dead]
 rw [e]
 exact hd
theorem DpAt.below {w w':World} {base h:Nat} {x:HV} {d:DpS} (hd:DpAt w base h x d) (i:Below w.heap.size w w'):DpAt w' base h x d :=
 ⟨hd.row.gr (i.block _ hd.row.lt),hd.left,hd.dead,hd.room,hd.tab.gr (i.block _ hd.tab.lt),hd.own.below i,hd.ltyp.frame fun b _ j=>i.block b j,hd.lo,hd.lb⟩
theorem ml.below {w wr w':World} {base h:Nat} {x:HV} {d:DpS} (hd:ml w base h x d wr) (b:Below wr.heap.size wr w'):ml w base h x d w':=by
 obtain ⟨⟨lv,h1,h2⟩,h3⟩:=hd
 exact ⟨⟨lv,h1.below b,h2⟩,h3.trans (Ext.fT b)⟩
theorem ml.step {w wr w':World} {base h:Nat} {x:HV} {d d':DpS} {lv:Value} (h2:∀ i,lv.ownBlock=some i→x.log.ownBlock=some i∨w.heap.size≤i) (h1:DpAt wr base h {x with left:=d.left,dead:=d.dead,log:=lv} d) (h3:Ext (fun i=>i=h∨i=x.r∨x.log.ownBlock=some i) w wr) {e:Ending}
  (y:BP base h {x with left:=d.left,dead:=d.dead,log:=lv} d' wr e w'):ml w base h x d' w'∧(∀ (j:Nat) (o:Obj),wr.heap[j]?=some o→Aside x.r j o→w'.heap[j]?=some o)∧wr.heap.size≤w'.heap.size:=by
 obtain ⟨-,m,hd,l,hl⟩:=y
 refine ⟨⟨⟨m,hd,fun i e => ?_⟩,h3.trans' l fun i B => ?_⟩,fun j o b D => ?_,l.size⟩
 ·rcases hl i e with e | e
  ·exact h2 i e
  ·exact .inr (aH h3.size e)
 ·rcases B with e | e | e
  ·exact .inl (.inl e)
  ·exact .inl (.inr (.inl e))
  ·exact (h2 i e).imp (fun e => .inr (.inr e)) id
 ·refine (l.block j (fO b) fun E => ?_).trans b
  obtain ⟨a1,a2,a3⟩:=D
  rcases E with e | e | e
  ·have q:wr.heap[h]?=_:=h1.row
   rw [←e,b] at q
   exact a2 _ _ (Option.some.inj q)
  ·obtain ⟨-,L,⟨es,cl,hm,-⟩,-⟩:=h1.tab
   have s:j=x.r:=e
   rw [show ({x with left:=d.left,dead:=d.dead,log:=lv} : HV).r=x.r from rfl,←s,b] at hm
   exact a3 _ _ (Option.some.inj hm) s
  ·obtain ⟨C,fz,u⟩:=h1.ltyp j e
   rw [b] at u
   exact a1 _ _ (Option.some.inj u)
theorem kz {r j:Nat} {C:Array Value} {t:TypeId} {fz:Nat×Nat} (h1:t≠9) (h2:t≠125):Aside r j (.cells C t fz) :=
 ⟨fun d b e=>h1 (by cases e;rfl),fun d b e=>h2 (by cases e;rfl),fun es cl e=>by cases e⟩
theorem TabAt.aside {w w':World} {b r:Nat} {S:List E} (h:TabAt w r S) (d:r≠b) (hk:∀ (j:Nat) (o:Obj),w.heap[j]?=some o→Aside b j o→w'.heap[j]?=some o):TabAt w' r S:=by
 have i:=h
 obtain ⟨-,L,⟨es,cl,hm,-⟩,-⟩:=i
 exact h.gr ((hk r _ hm ⟨(fun _ _ e=>by cases e),(fun _ _ e=>by cases e),fun _ _ _=>d⟩).trans hm.symm)
theorem lT.aside {w w':World} {d:Nat} {v:Value} {l:List K} (h:lT w v l) (hk:∀ (j:Nat) (o:Obj),w.heap[j]?=some o→Aside d j o→w'.heap[j]?=some o):lT w' v l:=by
 obtain ⟨h1,h2⟩:=h
 refine ⟨h1.frame fun b i _ => ?_,fun g m => ?_⟩
 ·obtain ⟨cs,fz,h⟩:=h2 b i
  rw [h,hk b _ h (kz (by decide) (by decide))]
 ·obtain ⟨cs,fz,h⟩:=h2 g m
  exact ⟨cs,fz,hk g _ h (kz (by decide) (by decide))⟩
structure lS (w:World) (h D:Nat) (S0:List E) (wr:World):Prop where
 tab:TabAt wr (w.heap.size+1) S0
 boxH:Boxed wr (w.heap.size+2) 162 (.map (some (w.heap.size+1)))
 boxP:Boxed wr w.heap.size 169 (.iface 116 (.agg #[.pointer (some ⟨h,0,none⟩)]))
 defer:wr.heap[D]?=some (.deferred (some []))
theorem lS.below {w wr w':World} {h D:Nat} {S0:List E} (hk:lS w h D S0 wr) (b:Below wr.heap.size wr w'):lS w h D S0 w' :=
 ⟨hk.tab.gr (b.block _ hk.tab.lt),(b.block _ hk.boxH.lt).trans hk.boxH,(b.block _ hk.boxP.lt).trans hk.boxP,(b.block _ (fO hk.defer)).trans hk.defer⟩
theorem lS.aside {w wr w':World} {h D r:Nat} {S0:List E} (hk:lS w h D S0 wr) (b:r<w.heap.size) (ha:∀ (j:Nat) (o:Obj),wr.heap[j]?=some o→Aside r j o→w'.heap[j]?=some o):lS w h D S0 w' :=
 ⟨hk.tab.aside (by omega) ha,ha _ _ hk.boxH (kz (by decide) (by decide)),ha _ _ hk.boxP (kz (by decide) (by decide)),ha _ _ hk.defer ⟨(fun _ _ e=>by cases e),(fun _ _ e=>by cases e),(fun _ _ e=>by cases e)⟩⟩
theorem EntAt.ext {w w':World} {P:Nat→Prop} {q off r:Nat} {S:List E} (h:EntAt w q off r S) (b:Ext P w w') (hq:¬P q) (d:¬P r):EntAt w' q off r S :=
 ⟨b.cell hq h.cell,h.tab.gr (b.block r h.tab.lt d)⟩
theorem uC (k:K) (v:List UInt8) (S:List E) (b:SortedE S):(ke k v S).length≤S.length+1:=by
 have:=qh (m:=(k,v)::S) (sorted_put k v b).nodup fun x d=>by
  rcases (jA k v S x).1 d with rfl | ⟨h,-⟩
  ·exact bV
  ·exact aR _ h
 simpa using this
theorem zc (k:K) (S:List E):(ot k S).length≤S.length:=dr _ _
theorem DpS.Ff {d:DpS} (o:rF) (b:SortedE d.S):SortedE (d.step o).S∧(d.step o).S.length≤d.S.length+1∧(d.step o).log.length≤d.log.length+2:=by
 obtain ⟨k,v⟩:=o
 cases v with
 | none =>
  unfold DpS.step DpS.drop
  simp only
  split
  ·exact ⟨b,dK _,eh _ _⟩
  ·exact ⟨lP k b,ey (zc k d.S),by simp⟩
 | some v =>
  unfold DpS.step DpS.put
  simp only
  split
  ·exact ⟨b,dK _,eh _ _⟩
  ·split
   ·exact ⟨sorted_put k v b,uC k v d.S b,by simp⟩
   ·exact ⟨b,dK _,by simp⟩
theorem DpS.sU:∀ {d:DpS} (os:List rF),SortedE d.S→SortedE (d.run os).S∧(d.run os).S.length≤d.S.length+os.length∧(d.run os).log.length≤d.log.length+2*os.length
 | d,[],h=>⟨h,af _,af _⟩
 | d,o::os,h=>by
  obtain ⟨h1,h2,h3⟩:=DpS.Ff o h
  obtain ⟨g1,g2,g3⟩:=DpS.sU (d:=d.step o) os h1
  have e:d.run (o::os)=(d.step o).run os:=rfl
  rw [e,ar]
  exact ⟨g1,by omega,by omega⟩
def iX (S T:List E) (k:Nat):List rF:=l5 (nP (S.take k) T)
theorem wv {α:Type} {o:Option α} (h:o.isSome=true):o.isNone=false:=by cases o <;> simp_all
theorem xE {α:Type} {o:Option α} (h:o.isSome=false):o.isNone=true:=by cases o <;> simp_all
theorem zd {S T:List E} {k:Nat} (hk:k<S.length) (h:(jB S[k].1 T).isSome=true):iX S T (k+1)=iX S T k:=by
 unfold iX nP
 rw [aT hk,eo,eE (by rw [wv h];decide)]
 simp
theorem Co {S T:List E} {k:Nat} (hk:k<S.length) (h:(jB S[k].1 T).isSome=false):iX S T (k+1)=iX S T k++[(S[k].1,none)]:=by
 unfold iX nP
 rw [aT hk,eo,fF (by exact xE h)]
 simp [l5]
theorem qb (S T:List E) (k:Nat):(iX S T k).length≤S.length:=by
 unfold iX nP l5
 rw [aG]
 exact aH (dr _ _) (by rw [az];omega)
theorem pA (l:List E):SortedE (gV l):=by
 have key:∀ (l:List E) (S:List E),SortedE S→SortedE (l.foldl (fun S x=>ke x.1 x.2 S) S):=by
  intro l
  induction l with
  | nil=>exact fun S h=>h
  | cons x l ih=>exact fun S h=>ih _ (sorted_put _ _ h)
 exact key l [] SortedE.nil
theorem yk {l:List E} (b:(l.map (·.1)).Nodup) (x:E):x∈gV l↔x∈l:=by
 have:=wK l [] x b
 have e:jW [] (kI l)=gV l:=by
  unfold jW kI gV
  rw [List.foldl_map]
  rfl
 rw [e] at this
 rw [this]
 simp
theorem yl {l S:List E} (b:SortedE S) (d:l.Perm S):gV l=S:=by
 have i:(l.map (·.1)).Nodup:=(d.map (·.1)).nodup_iff.2 b.keys
 exact SortedE.ext (pA l) b fun x=>by rw [yk i,d.mem_iff]
theorem Bn {β:Type} {B r:Nat} (i:r<B) (f : β→List E):OwnFrom B (fun s W=>TabAt W r (f s)):=fun s X Y row hs d b =>
 hs.gr (d.block r hs.lt (fun e=>by obtain ⟨h1,-⟩:=b r e.symm;omega))
theorem jL {X Y:World} {row:Option Nat} {B:Nat} (d:X.grownBy Y row) (i:∀ r,row=some r→B≤r∧∃ o:Obj,X.heap[r]?=some o∧o.isCells=false) {j:Nat} {o:Obj} (b:X.heap[j]?=some o) (h:j<B∨o.isCells=true):Y.heap[j]?=some o :=
 (d.block j (fO b) fun e=>by
  obtain ⟨h1,l,h2,h3⟩:=i j e.symm
  rw [b] at h2
  cases h2
  rcases h with h | h
  ·omega
  ·rw [h] at h3;cases h3).trans b
theorem ml.wh {w X Y:World} {base h B:Nat} {x:HV} {d:DpS} {row:Option Nat} (hd:ml w base h x d X) (l:X.grownBy Y row) (q:∀ r,row=some r→B≤r∧∃ o:Obj,X.heap[r]?=some o∧o.isCells=false) (E:w.heap.size≤B) (s:x.r<B):ml w base h x d Y:=by
 obtain ⟨⟨lv,h1,h2⟩,h3⟩:=hd
 have m:∀ b,lv.ownBlock=some b→b<X.heap.size→Y.heap[b]?=X.heap[b]?:=fun b e F=>by
  obtain ⟨C,fz,u⟩:=h1.ltyp b e
  rw [jL l q u (.inr rfl),u]
 refine ⟨⟨lv,⟨jL l q h1.row (.inr rfl),h1.left,h1.dead,h1.room,h1.tab.gr ?_,h1.own.frame l.size m,h1.ltyp.frame m,h1.lo,h1.lb⟩,h2⟩,h3.trans' (T:=fun i=>row=some i) ⟨l.os,l.tape,l.output,l.size,fun j D y=>l.block j D fun e=>y e.symm⟩ fun i e => .inr (by have:=(q i e).1;omega)⟩
 obtain ⟨-,L,⟨es,cl,hm,-⟩,-⟩:=h1.tab
 exact (jL l q hm (.inl s)).trans hm.symm
theorem lS.wh {w X Y:World} {h D B:Nat} {S0:List E} {row:Option Nat} (hk:lS w h D S0 X) (b:X.grownBy Y row) (d:∀ r,row=some r→B≤r∧∃ o:Obj,X.heap[r]?=some o∧o.isCells=false) (j:w.heap.size+2≤B) (i:D<B):lS w h D S0 Y:=by
 refine ⟨hk.tab.gr ?_,jL b d hk.boxH (.inr rfl),jL b d hk.boxP (.inr rfl),jL b d hk.defer (.inl i)⟩
 obtain ⟨-,L,⟨es,cl,hm,-⟩,-⟩:=hk.tab
 exact (jL b d hm (.inl (by omega))).trans hm.symm
def lJ (S T pre:List E):List rF:=iX S T S.length++kI (qX S pre)
theorem Bp (S T pre:List E) (x:E):lJ S T (pre++[x])=if x∈S then lJ S T pre else lJ S T pre++[(x.1,some x.2)]:=by
 unfold lJ qX kI
 rw [eo,bm,←bj]
 split
 ·rename_i h
  simp [h]
 ·rename_i h
  simp [h]
theorem Dg (S T:List E):lJ S T T=jo S T:=by
 unfold lJ iX jo
 rw [bC]
theorem Dh (S T pre:List E):(lJ S T pre).length≤S.length+pre.length:=by
 unfold lJ
 rw [aq]
 have h1:=qb S T S.length
 have h2:(kI (qX S pre)).length≤pre.length:=by
  unfold kI qX
  rw [aG]
  exact dr _ _
 omega
theorem xZ (base q off r h:Nat) (x:HV) (d:DpS) (T:List E) (w:World) (he:EntAt w q off r T) (hd:DpAt w base h x d) (hT:T.length≤100000000) (hS:d.S.length≤100000000) (hL:d.log.length≤7500000000000) (e8:∀ y∈d.S,y.1.2.length≤gF) (e9:∀ y∈T,y.1.2.length≤gF∧y.2.length≤gF) (hb:base≤w.heap.size) (fa:q≠h) (fb:x.log.ownBlock≠some q) (fc:r≠x.r) :
  Calls Tryz.prog 108 #[.pointer (some ⟨q,off,none⟩),rY h] w fun e w'=>e = .returned (.tuple #[])∧ml w base h x (d.run (jo d.S T)) w':=by
 have hm:=AX h
 have ii:=Gi h
 have hh := @run_makeMap Tryz.prog
 unfold rY
 refine (callsIn_wide (n:=9)).1 ?_
 refine callsIn_of_wp_marks Tryz.func108 rfl cL ?_ rfl
 try simp only [Tryz.ntmps108,dC,ar,aJ,Nat.reduceAdd,Nat.reduceSub,bf,bu,bT,dG,aO,aX]
 gi_wp2_with fail
 refine ⟨cL,(callsIn_wide.2 (Cp h _)).mono ?_⟩
 rintro e w0 ⟨rfl,rfl⟩
 gi_wp2_with fail
 have bP:=(((Boxed.new w 169 (.iface 116 (.agg #[.pointer (some ⟨h,0,none⟩)]))).alloc (.map #[] 0)).alloc (.cells #[.map (some (w.heap.size+1))] 162)).alloc (.cells #[.pointer (some ⟨h,0,none⟩)] 116)
 have tM:TabAt ((((w.alloc (.cells #[.iface 116 (.agg #[.pointer (some ⟨h,0,none⟩)])] 169)).alloc (.map #[] 0)).alloc (.cells #[.map (some (w.heap.size+1))] 162)).alloc (.cells #[.pointer (some ⟨h,0,none⟩)] 116)) (w.heap.size+1) []:=by
  have h1:=TabAt.new (w.alloc (.cells #[.iface 116 (.agg #[.pointer (some ⟨h,0,none⟩)])] 169))
  rw [aw] at h1
  exact (h1.gr (heap_alloc_old _ _ (by simp))).gr (heap_alloc_old _ _ (by simp))
 have hW:=(Boxed.new ((w.alloc (.cells #[.iface 116 (.agg #[.pointer (some ⟨h,0,none⟩)])] 169)).alloc (.map #[] 0)) 162 (.map (some (w.heap.size+1)))).alloc (.cells #[.pointer (some ⟨h,0,none⟩)] 116)
 have hX:=Boxed.new (((w.alloc (.cells #[.iface 116 (.agg #[.pointer (some ⟨h,0,none⟩)])] 169)).alloc (.map #[] 0)).alloc (.cells #[.map (some (w.heap.size+1))] 162)) 116 (.pointer (some ⟨h,0,none⟩))
 simp only [aw,aW,Nat.reduceAdd] at hW hX
 have b4:Below w.heap.size w ((((w.alloc (.cells #[.iface 116 (.agg #[.pointer (some ⟨h,0,none⟩)])] 169)).alloc (.map #[] 0)).alloc (.cells #[.map (some (w.heap.size+1))] 162)).alloc (.cells #[.pointer (some ⟨h,0,none⟩)] 116)):=((((Below.refl _ w).alloc (af _) _).alloc (by simp) _).alloc (by simp;omega) _).alloc (by simp;omega) _
 have fd:((((w.alloc (.cells #[.iface 116 (.agg #[.pointer (some ⟨h,0,none⟩)])] 169)).alloc (.map #[] 0)).alloc (.cells #[.map (some (w.heap.size+1))] 162)).alloc (.cells #[.pointer (some ⟨h,0,none⟩)] 116)).heap.size=w.heap.size+4:=by simp
 simp only [aW,Nat.reduceAdd]
 obtain ⟨W0,d3⟩:∃ W0,(((w.alloc (.cells #[.iface 116 (.agg #[.pointer (some ⟨h,0,none⟩)])] 169)).alloc (.map #[] 0)).alloc (.cells #[.map (some (w.heap.size+1))] 162)).alloc (.cells #[.pointer (some ⟨h,0,none⟩)] 116)=W0:=⟨_,rfl⟩
 rw [d3] at bP tM hW hX b4 fd⊢
 clear d3
 have bL:=hd.row
 have a4:=hd.tab
 have fg:=bL.lt
 have bs:=a4.lt
 refine wpIn_rangeFunc_ownH rfl (by omega) (gf:=244) (lb:=#[.pointer (some ⟨w.heap.size+3,0,none⟩)]) rfl cL (enters_of Tryz.func244 (by kernel_rfl) rfl)
  (Cq (9-1) (by omega) (w.heap.size+3) h x d.S W0 (by omega) hX.cell (bL.gr (b4.block _ fg)) (a4.gr (b4.block _ bs))) (fun h k=>lE.trans h k)
  (fun W l o o' hl G hc hw=>⟨by simp,World.putObj_heap_other (by omega),(fun k m a b c hk=>(World.putObj_heap_other (fun e=>by subst e;rw [hk] at G;cases G;cases hw)).trans hk)⟩) (Below.refl _ _) (fun _=>rfl)
  (fun pre W=>(((TabAt W (w.heap.size+1) (gV pre)∧W0.heap.size≤W.heap.size)∧Boxed W (w.heap.size+2) 162 (.map (some (w.heap.size+1))))∧Boxed W w.heap.size 169 (.iface 116 (.agg #[.pointer (some ⟨h,0,none⟩)])))∧Below w.heap.size w W)
  (fun _ _ _=>False)
  (OwnFrom.and (OwnFrom.and (OwnFrom.and (OwnFrom.and (Bn (by omega) gV) (fun s X Y row hs hQ _=>aH hs hQ.size)) (Own.from (boxed_own _ _ _) _)) (Own.from (boxed_own _ _ _) _)) (ownFrom_below (af _) (by omega)))
  (fun _ _ _ _ _ hs _ _=>hs)
  ⟨⟨⟨⟨tM,af _⟩,hW⟩,bP⟩,b4⟩
  (fun y a' W=>∃ Q,w.heap.size+3<Q∧W.heap[Q]?=some (.cells #[.int .i64 y.1.1,.string ⟨y.1.2.toArray⟩] 103 (0,0))∧a' = {tmps:=#[.pointer (some ⟨q,off,none⟩),.iface 116 (.agg #[.pointer (some ⟨h,0,none⟩)]),undef,.pointer (some ⟨w.heap.size,0,none⟩),.pointer (some ⟨w.heap.size+2,0,none⟩),.pointer (some ⟨Q,0,none⟩),.string ⟨y.2.toArray⟩,undef,undef,undef,undef,undef,undef,undef,undef,.map (some (w.heap.size+1)),.iface 116 (.agg #[.pointer (some ⟨h,0,none⟩)]),.func (.func 244) #[] #[.pointer (some ⟨w.heap.size+3,0,none⟩)],.agg #[.int .i64 y.1.1,.string ⟨y.1.2.toArray⟩],.string ⟨y.2.toArray⟩,undef,undef,undef,undef,undef,undef,undef,undef,undef,undef,undef,undef,undef,undef,undef,undef,undef,undef,undef,undef,undef,undef,undef,undef,undef,undef,undef,undef,undef,undef,undef,undef,undef,undef,undef,undef,undef,undef,undef,undef,undef,undef,undef,undef,undef,undef,undef,undef,undef],defers:=[]})
  (fun y a' _ X Y row hs hQ hV=>by
   obtain ⟨Q,h1,h2,h3⟩:=hs
   exact ⟨Q,h1,(hQ.block Q (fO h2) (fun e=>by obtain ⟨-,o,G,hc⟩:=hV Q e.symm;rw [h2] at G;cases G;cases hc)).trans h2,h3⟩)
  ?assign ?body ?done ?stop
 case assign =>
  rintro l pre y W K ⟨⟨⟨⟨h1,co⟩,h2⟩,h3⟩,h4⟩ hK
  unfold kV jh
  gi_wp2
  have O:Below W.heap.size W (W.alloc (.cells #[.int .i64 y.1.1,.string ⟨y.1.2.toArray⟩] 103)):=(Below.refl _ W).alloc (af _) _
  exact hK _ _ ((KeepsOthers.alloc _ _).from _) (lE.gD O (by have:=h4.size;omega)) ⟨⟨⟨⟨h1.gr (O.block _ h1.lt),by simp;omega⟩,h2.alloc _⟩,h3.alloc _⟩,h4.alloc h4.size _⟩ ⟨W.heap.size,by omega,fR W _,rfl⟩
 case body =>
  rintro l pre ⟨⟨N,J⟩,M⟩ a' W hl ⟨rr,fi⟩ ⟨⟨⟨⟨h1,co⟩,h2⟩,h3⟩,h4⟩ ⟨Q,fk,hR,rfl⟩ a5
  dsimp only at hR⊢
  have c0:=h2.cell
  have x0:=ae _ _ 0 _ _ _ hR
  have x1:=ae _ _ 1 _ _ _ hR
  obtain ⟨W1,hu,d4,bk,hi⟩:=TabAt.put (w:=W) h1 (mt:=162) Tryz.underlying162 (N,J) M
  have fl:(Instr.mapUpdate 162 (.map (some (w.heap.size+1))) (kV (N,J)) (kU M)).run Tryz.prog W = .ok () W1:=hu 0
  simp only [kV,jh,kU] at fl
  have fn:=ab d4
  have cp:=ab h1
  clear hu d4 h1
  gi_wp2
  have d5:∀ (j:Nat) (C:Array Value) (t:TypeId) (fz:Nat×Nat),W.heap[j]?=some (.cells C t fz)→W1.heap[j]?=some (.cells C t fz):=fun j C t fz hY=>(bk.block j (fO hY) (fun e=>cp.out.jZ hY (by cases e;rfl))).trans hY
  have hj:=cp.out.lt
  refine ⟨⟨bk.size,fun k o hk G _=>(bk.block k (fO G) (fun e=>by cases e;omega)).trans G⟩,lE.Gk bk (by have:=h4.size;omega) (by omega) (fun m a b c e => ?_),⟨⟨⟨by rw [wE];exact fn.out,aH co bk.size⟩,d5 _ _ _ _ h2⟩,d5 _ _ _ _ h3⟩,h4.grown bk h4.size (fun j e=>by cases e;omega)⟩
  obtain ⟨-,L,⟨es,cl,fo,-⟩,-⟩:=cp.out
  rw [fo] at e
  cases e
 case done =>
  rintro D ys W io d6 ⟨⟨⟨⟨h1,co⟩,h2⟩,h3⟩,h4⟩ hK
  rw [yl a4.sorted d6] at h1
  have fp:=h1.lt
  have hn:=h4.size
  have a0:Below W.heap.size W (W.alloc (.cells #[.map (some (w.heap.size+1))] 162)):=(Below.refl _ W).alloc (af _) _
  have d7:=ab (nY W.heap.size (w.heap.size+1) d.S (W.alloc (.cells #[.map (some (w.heap.size+1))] 162)) (by simp) (ae _ _ 0 _ _ _ (fR W (.cells #[.map (some (w.heap.size+1))] 162))) (h1.gr (a0.block _ fp)) (by omega))
  have c0:=h2.cell
  gi_wp2_with (first
   | (refine ⟨cL,(callsIn_wide.2 (rL (w.heap.size+1) W)).mono ?_⟩;rintro e w0 ⟨rfl,rfl⟩)
   | (refine ⟨cL,(callsIn_wide.2 d7.out).mono ?_⟩;rintro e w1 ⟨v,rfl,b5,cq⟩;obtain ⟨sa,av,rfl,-,-⟩:=b5.opened;rw [aG] at *))
  have cr:Below w.heap.size w w1:=(h4.Jr a0).trans (cq.mono (h4.Jr a0).size)
  have fv:=cr.size
  have hmx:d.S.length≤av:=by obtain ⟨a',c',e,h,-⟩:=b5.opened;obtain ⟨-,-,rfl⟩:=Value.slice.inj e;simpa using h
  have O:Below W.heap.size W w1:=a0.trans (cq.mono (by simp))
  have bN:=ab ((ml.start (w:=w) hd).below cr)
  have bO:=ab ((lS.mk (w:=w) (h:=h) (D:=D) (S0:=d.S) h1 h2 h3 hK).below O)
  have fB:=ab b5
  have ct:=ab a4.sorted
  have d8:q≠x.r:=fun e=>by
   have:=nk he.cell a4
   exact this e
  have d9:r≠h:=fun e=>he.tab.jZ bL e.symm
  have ea:x.log.ownBlock≠some r:=hd.ltyp.qk he.tab
  have b6:Hid (¬(q=h∨q=x.r∨x.log.ownBlock=some q)):=ab (fun e=>by rcases e with e | e | e;exact fa e;exact d8 e;exact fb e)
  have br:Hid (¬(r=h∨r=x.r∨x.log.ownBlock=some r)):=ab (fun e=>by rcases e with e | e | e;exact d9 e;exact fc e;exact ea e)
  have HE:=ab he
  have ho:=Gh h
  have hp:=AW h
  clear b5 h1 h2 h3 hK c0 d7 cq O hX hW tM bP d8 d9 ea d6 a0
  gi_loopw [28] (fun i wr=>∃ k:Nat,k≤d.S.length∧i = .int .i64 (k:Int)∧ml w base h x (d.run (iX d.S T k)) wr∧lS w h D d.S wr∧lT wr (.slice sa d.S.length av) (d.S.map (·.1))) (fun i _=>d.S.length-(intOf i).toNat)
  case atStart=>exact ⟨0,aM _,rfl,bN.out,bO.out,fB.out⟩
  case round =>
   obtain ⟨k,hk,rfl,bv,b7,b8⟩:=hrel
   by_cases a5:k<d.S.length
   ·have g1:(k:Int)<d.S.length:=by omega
    obtain ⟨hr,gs,e,-,hZ⟩:=b8.opened
    obtain ⟨rfl,-,rfl⟩:=Value.slice.inj e
    obtain ⟨cu,ko,rfl,c0,c1⟩:=hZ k (by simpa using a5)
    obtain ⟨y,bl⟩:∃ y,y=d.S[k]:=⟨_,rfl⟩
    rw [ff,←bl] at c0 c1
    have eb:y∈d.S:=by rw [bl];exact cD a5
    have ec:=e8 y eb
    obtain ⟨⟨KT,KB⟩,VB⟩:=y
    simp only at c0 c1 ec
    have f1:Hid ((jB (KT,KB) T).isSome=true→iX d.S T (k+1)=iX d.S T k):=ab (fun h=>zd a5 (by rw [←bl];exact h))
    have e2:Hid ((jB (KT,KB) T).isSome=false→iX d.S T (k+1)=iX d.S T k++[((KT,KB),none)]):=ab (fun h=>by have:=Co a5 (T:=T) (by rw [←bl];exact h);rw [←bl] at this;exact this)
    have bn:=ab (HE.out.ext bv.ext b6.out br.out)
    have ed:=bn.out.cell
    have f2:=fU ed
    have f3:=fU c0
    have eg:Below wr.heap.size wr (wr.alloc (.cells #[.int .i64 KT,.string ⟨KB.toArray⟩] 103)):=(Below.refl _ wr).alloc (af _) _
    have ak:=ab eg
    have bw:=ab bv
    have a1:=ab b7
    have f4:=ab b8
    clear bv b7 b8 hk bl eb eg hZ
    gi_wp2
    obtain ⟨wa,cv⟩:∃ wa,wa=wr.alloc (.cells #[.int .i64 KT,.string ⟨KB.toArray⟩] 103):=⟨_,rfl⟩
    rw [←cv] at ak⊢
    have ca:Hid (wa.heap[wr.heap.size]?=some (.cells #[.int .i64 KT,.string ⟨KB.toArray⟩] 103 (0,0))):=ab (by rw [cv];exact fR _ _)
    have cb:=ab (bn.out.below ak.out)
    have ht:wr.heap.size<wa.heap.size:=fO ca.out
    clear cv c0 c1 ed f2 f3
    have ej:=cb.out.cell
    have e3:=fU ej
    have d0:=ae _ _ 0 _ _ _ ca.out
    have d1:=ae _ _ 1 _ _ _ ca.out
    have aa:=TabAt.kT (w:=wa.drew) (cb.out.tab.gr rfl) (mt:=162) Tryz.underlying162 (s9 _) (KT,KB)
    simp only [kV,jh,kU] at aa
    obtain ⟨bt,a7⟩:∃ bt,bt=(jB (KT,KB) T).isSome:=⟨_,rfl⟩
    rw [←a7] at aa
    have bo:=ab a7
    clear a7
    have a9:=fun o=>TabAt.kT (w:=(wa.alloc o).drew) (cb.out.tab.gr (heap_alloc_old _ _ cb.out.tab.lt)) (mt:=162) Tryz.underlying162 (s9 _) (KT,KB)
    simp only [kV,jh,kU] at a9
    rw [←bo.out] at a9
    gi_region
    obtain ⟨w9,ce⟩:∃ w9,w9=(wa.alloc (.cells #[.string ⟨((jB (KT,KB) T).getD []).toArray⟩] 226)).drew:=⟨_,rfl⟩
    rw [←ce]
    have cB:Hid (Below wr.heap.size wr w9):=ab (by rw [ce];exact (ak.out.alloc ak.out.size _).drew)
    have c2:Hid (w9.heap[wr.heap.size]?=some (.cells #[.int .i64 KT,.string ⟨KB.toArray⟩] 103 (0,0))):=ab (by rw [ce];exact fX _ _ ca.out)
    have c3:=ab (bw.out.below cB.out)
    have bX:=ab (a1.out.below cB.out)
    have c4:Hid (lT w9 (.slice (some ⟨cu,ko,none⟩) d.S.length av) (d.S.map (·.1))):=ab ((f4.out).kept (x:=w.heap.size) (y:=w.heap.size) (z:=w.heap.size) (gU.gD cB.out a1.out.boxP.lt a1.out.boxP.lt a1.out.boxP.lt))
    clear ce aa a9 d0 d1 ej e3
    have h7:=bX.out.boxP.cell
    have d0:=ae _ _ 0 _ _ _ c2.out
    have d1:=ae _ _ 1 _ _ _ c2.out
    have hv:=fO c2.out
    cases bt with
    | true =>
     have c5:=ab (f1.out bo.out.symm)
     gi_wp2
     have al:∃ k':Nat,k'≤d.S.length∧Value.int .i64 ((k:Int)+1) = .int .i64 (k':Int)∧ml w base h x (d.run (iX d.S T k')) w9∧lS w h D d.S w9∧lT w9 (.slice (some ⟨cu,ko,none⟩) d.S.length av) (d.S.map (·.1)):=⟨k+1,by omega,rfl,by rw [c5.out];exact c3.out,bX.out,c4.out⟩
     simp only [aG]
     refine ⟨?_,?_⟩
     ·first
       | exact al
       | ((repeat apply Exists.intro);exact ⟨al,rfl⟩)
     ·simp [intOf]
      omega
    | false =>
     have c5:=ab (e2.out bo.out.symm)
     obtain ⟨⟨lv,am,R⟩,F⟩:=c3.out
     obtain ⟨f5,f6,f7⟩:=DpS.sU (d:=d) (iX d.S T k) ct.out
     have f8:=qb d.S T k
     have el:=ab (fun W (O:Below w9.heap.size w9 W)=>Cn base h {x with left:=(d.run (iX d.S T k)).left,dead:=(d.run (iX d.S T k)).dead,log:=lv} (d.run (iX d.S T k)) KT KB W (am.below O) (by have:=F.size;have:=O.size;omega) (by omega) ec)
     gi_wp2_with fail
     refine ⟨cL,(callsIn_wide.2 (el.out w9 (Below.refl _ _))).mono ?_⟩
     rintro e w' hU
     obtain ⟨ag,I,ap⟩:=ml.step R am F hU
     obtain ⟨rfl,-⟩:=hU
     have HG:=ab ag
     have bb:=ab (bX.out.aside bs I)
     have e4:=ab (c4.out.aside I)
     clear ag I ap am R F h7 d0 d1 el
     gi_wp2
     have al:∃ k':Nat,k'≤d.S.length∧Value.int .i64 ((k:Int)+1) = .int .i64 (k':Int)∧ml w base h x (d.run (iX d.S T k')) w'∧lS w h D d.S w'∧lT w' (.slice (some ⟨cu,ko,none⟩) d.S.length av) (d.S.map (·.1)):=⟨k+1,by omega,rfl,by rw [c5.out,DpS.sX];exact HG.out,bb.out,e4.out⟩
     simp only [aG]
     refine ⟨?_,?_⟩
     ·first
       | exact al
       | ((repeat apply Exists.intro);exact ⟨al,rfl⟩)
     ·simp [intOf]
      omega
   ·obtain rfl:k=d.S.length:=by omega
    have g1:¬(d.S.length:Int)<d.S.length:=by omega
    have bw:=ab bv
    have a1:=ab b7
    clear bv b7 b8 hk a5
    gi_wp2_with fail
    refine ⟨cL,(callsIn_wide.2 (py q off _)).mono ?_⟩
    rintro e w2 ⟨rfl,rfl⟩
    gi_wp2_with fail
    have f9:T.length≤1000000000:=by omega
    have hx:=bw.out.ext.size
    have hy:=a1.out.boxH.lt
    have g3:=fO a1.out.defer
    have ak:Hid (Below wr.heap.size wr (wr.alloc (.cells #[.pointer (some ⟨q,off,none⟩)] 219))):=ab ((Below.refl _ wr).alloc (af _) _)
    have bn:=ab (HE.out.ext bw.out.ext b6.out br.out)
    have em:Hid ((wr.alloc (.cells #[.pointer (some ⟨q,off,none⟩)] 219)).cell? ⟨wr.heap.size,0,none⟩=some (.pointer (some ⟨q,off,none⟩))):=ab (ae _ _ 0 _ _ _ (fR wr (.cells #[.pointer (some ⟨q,off,none⟩)] 219)))
    have c7:Hid ((wr.alloc (.cells #[.pointer (some ⟨q,off,none⟩)] 219)).heap[wr.heap.size]?=some (.cells #[.pointer (some ⟨q,off,none⟩)] 219 (0,0))):=ab (fR wr _)
    obtain ⟨W1,c8⟩:∃ W1,W1=wr.alloc (.cells #[.pointer (some ⟨q,off,none⟩)] 219):=⟨_,rfl⟩
    have fv:W1.heap.size=wr.heap.size+1:=by rw [c8];simp
    rw [←c8] at ak em c7⊢
    clear c8
    have ga:=ab (bn.out.below ak.out)
    have bN:=ab (bw.out.below ak.out)
    have bO:=ab (a1.out.below ak.out)
    have g4:=bn.out.lt
    have g5:=bn.out.tab.lt
    have h0:lJ d.S T []=iX d.S T d.S.length:=by unfold lJ qX kI;simp
    refine wpIn_rangeFunc_ownH rfl (by omega) (gf:=135) (lb:=#[.pointer (some ⟨wr.heap.size,0,none⟩)]) rfl cL (enters_of Tryz.func135 (by kernel_rfl) rfl)
     (nQ (Subtype.val : {x:E // x∈T}→E) T.attach (9-1) wr.heap.size q off r T (dY T) W1 (by omega) em.out ga.out f9) (fun h k=>gU.trans h k)
     (fun W l o o' hl G hc hw=>⟨by simp,fun k hk=>World.putObj_heap_other (by rcases hk with rfl | rfl | rfl <;> omega),fun k cs fz hk=>(World.putObj_heap_other (fun e=>by subst e;rw [hk] at G;cases G;cases hc)).trans hk⟩) (Below.refl _ _) (fun _=>rfl)
     (fun (pre:List {x:E // x∈T}) W=>ml w base h x (d.run (lJ d.S T (pre.map Subtype.val))) W∧lS w h D d.S W∧W1.heap.size≤W.heap.size∧W.heap[wr.heap.size]?=some (.cells #[.pointer (some ⟨q,off,none⟩)] 219 (0,0)))
     (fun _ _ _=>False)
     (fun s X Y row hs hQ hV=>⟨hs.1.wh hQ hV (by omega) (by omega),hs.2.1.wh hQ hV (by omega) (by omega),aH hs.2.2.1 hQ.size,jL hQ hV hs.2.2.2 (.inr rfl)⟩)
     (fun _ _ _ _ _ hs _ _=>hs)
     ⟨by rw [du,h0];exact bN.out,bO.out,af _,c7.out⟩
     (fun y a' V=>∃ Q,w.heap.size+3<Q∧V.heap[Q]?=some (.cells #[.int .i64 y.1.1.1,.string ⟨y.1.1.2.toArray⟩] 103 (0,0))∧a' = {tmps:=#[.pointer (some ⟨q,off,none⟩),.iface 116 (.agg #[.pointer (some ⟨h,0,none⟩)]),undef,.pointer (some ⟨w.heap.size,0,none⟩),.pointer (some ⟨w.heap.size+2,0,none⟩),undef,undef,undef,u8,u9,u10,.pointer (some ⟨Q,0,none⟩),.string ⟨y.1.2.toArray⟩,undef,undef,.map (some (w.heap.size+1)),.iface 116 (.agg #[.pointer (some ⟨h,0,none⟩)]),.func (.func 244) #[] #[.pointer (some ⟨w.heap.size+3,0,none⟩)],undef,undef,undef,undef,undef,undef,.map (some (w.heap.size+1)),.func (.func 177) #[] #[.pointer (some ⟨W.heap.size,0,none⟩)],.slice sa d.S.length av,.int .i64 (d.S.length:Int),.int .i64 (d.S.length:Int),.bool false,u30,u31,u32,u33,u34,u35,u36,u37,u38,u39,u40,u41,u42,u43,u44,u45,u46,.pointer (some ⟨q,off,none⟩),.func (.func 135) #[] #[.pointer (some ⟨wr.heap.size,0,none⟩)],.agg #[.int .i64 y.1.1.1,.string ⟨y.1.1.2.toArray⟩],.string ⟨y.1.2.toArray⟩,undef,undef,undef,undef,undef,undef,undef,undef,undef,undef,undef,undef,undef,undef,undef,undef,undef,undef],defers:=[]})
     (fun y a' _ X Y row hs hQ hV=>by
      obtain ⟨Q,h1,h2,h3⟩:=hs
      exact ⟨Q,h1,jL hQ hV h2 (.inr rfl),h3⟩)
     ?assign2 ?body2 ?done2 ?stop2
    case assign2 =>
     rintro l pre y V K ⟨h1,h2,h3,h4⟩ hK
     unfold kV jh
     gi_wp2
     have O:Below V.heap.size V (V.alloc (.cells #[.int .i64 y.1.1.1,.string ⟨y.1.1.2.toArray⟩] 103)):=(Below.refl _ V).alloc (af _) _
     exact hK _ _ ((KeepsOthers.alloc _ _).from _) (gU.gD O (by omega) (by omega) (by omega)) ⟨h1.below O,h2.below O,by simp;omega,fX V _ h4⟩ ⟨V.heap.size,by omega,fR V _,rfl⟩
    case body2 =>
     rintro l bc ⟨⟨⟨N,J⟩,M⟩,en⟩ a' V hl ⟨rr,fi⟩ ⟨h1,h2,h3,h4⟩ ⟨Q,fk,hR,rfl⟩ a5
     dsimp only at hR⊢
     have ci:Hid ((bc++[(⟨((N,J),M),en⟩ : {x:E // x∈T})]).map Subtype.val=bc.map Subtype.val++[((N,J),M)]):=ab (by simp)
     have d2:(bc.map Subtype.val).length=bc.length:=aG _
     obtain ⟨pre,c9⟩:∃ pre,pre=bc.map Subtype.val:=⟨_,rfl⟩
     rw [←c9] at h1 ci d2
     clear c9
     have c0:=h2.boxH.cell
     have p0:=h2.boxP.cell
     have x0:V.cell? ⟨Q,0,none⟩=some (.int .i64 N):=ae _ _ 0 _ _ _ hR
     have x1:V.cell? ⟨Q,1,none⟩=some (.string ⟨J.toArray⟩):=ae _ _ 1 _ _ _ hR
     have aa:=TabAt.kT (w:=V) h2.tab (mt:=162) Tryz.underlying162 (s9 _) (N,J)
     simp only [kV,jh,kU] at aa
     obtain ⟨bt,a7⟩:∃ bt,bt=(jB (N,J) d.S).isSome:=⟨_,rfl⟩
     obtain ⟨ov,bz⟩:∃ ov,ov=(jB (N,J) d.S).getD []:=⟨_,rfl⟩
     rw [←a7,←bz] at aa
     have bo:=ab a7
     have gb:=ab bz
     have H1:=ab h1
     have H2:=ab h2
     have HX:=ab hR
     have g7:=fO hR
     have hz:=h2.boxP.lt
     clear a7 bz h1 h2 hR
     have hA:=Hy h
     have hB:=CX h
     have da:=ab (Bp d.S T pre ((N,J),M))
     have hC:pre.length≤100000000:=by omega
     have b1:Hid (((N,J),M)∈d.S↔jB (N,J) d.S=some M):=ab (ow ct.out.keys (N,J) M).symm
     have er:J.length≤gF∧M.length≤gF:=e9 ((N,J),M) en
     obtain ⟨f5,f6,f7⟩:=DpS.sU (d:=d) (lJ d.S T pre) ct.out
     have f8:=Dh d.S T pre
     obtain ⟨⟨lv,am,R⟩,F⟩:=H1.out
     have u:Hid (Below V.heap.size V (V.alloc (.cells #[.string ⟨ov.toArray⟩] 226))):=ab ((Below.refl _ V).alloc (af _) _)
     have eC:=ab (fun U (eD:Below V.heap.size V U)=>Eo base h {x with left:=(d.run (lJ d.S T pre)).left,dead:=(d.run (lJ d.S T pre)).dead,log:=lv} (d.run (lJ d.S T pre)) N J M U (am.below eD) (by have:=F.size;have:=eD.size;omega) (by omega) er.1 er.2 (by omega))
     have bD:Hid ((∃ o,V.heap[wr.heap.size]?=some o∧Aside x.r wr.heap.size o)∧q<w.heap.size∧r<w.heap.size∧x.r<w.heap.size):=ab ⟨⟨_,h4,kz (by decide) (by decide)⟩,HE.out.lt,HE.out.tab.lt,bs⟩
     cases bt with
     | false =>
      have b2:Hid (¬((N,J),M)∈d.S):=ab fun hm=>by
       have h1:=b1.out.1 hm
       have h2:=bo.out
       rw [h1] at h2
       cases h2
      gi_wp2_with fail
      refine ⟨cL,(callsIn_wide.2 (eC.out _ u.out)).mono ?_⟩
      rintro e w' hU
      obtain ⟨ag,I,ap⟩:=ml.step R (am.below u.out) (F.trans (Ext.fT u.out)) hU
      obtain ⟨rfl,gc,-,bH,-⟩:=hU
      have Z:∀ k,k=wr.heap.size∨k=q∨k=r→w'.heap[k]?=V.heap[k]?:=fun k hk=>by
       obtain ⟨⟨o,G,dc⟩,e1,h8,h9⟩:=bD.out
       have ge:=F.size
       rcases hk with rfl | rfl | rfl
       ·rw [I _ o (fQ u.out (fO G) G) dc,G]
       ·refine (bH.block _ (by have:=u.out.size;omega) fun e=>b6.out ?_).trans (u.out.block _ (by omega))
        rcases e with e | e | e
        ·exact .inl e
        ·exact .inr (.inl e)
        ·exact .inr (.inr ((R _ e).elim id (fun h=>by omega)))
       ·refine (bH.block _ (by have:=u.out.size;omega) fun e=>br.out ?_).trans (u.out.block _ (by omega))
        rcases e with e | e | e
        ·exact .inl e
        ·exact .inr (.inl e)
        ·exact .inr (.inr ((R _ e).elim id (fun h=>by omega)))
      have HG:=ab ag
      have bb:=ab ((H2.out.below u.out).aside bs I)
      have bI:Hid (gU wr.heap.size q r V w'):=ab ⟨aH u.out.size ap,fun k hk=>Z k hk,fun k cs fz hk=>I k _ (fQ u.out (fO hk) hk) (kz (by decide) (by decide))⟩
      have dk:Hid (KeepsFrom W1.heap.size V w'):=ab ⟨aH u.out.size ap,fun k o hk G hc=>I k o (fQ u.out (fO G) G) ⟨(fun C fz e=>by rw [e] at hc;cases hc),(fun C fz e=>by rw [e] at hc;cases hc),(fun es cl e=>by omega)⟩⟩
      have e6:=bI.out.size
      clear ag I ap am R F
      gi_wp2
      refine ⟨dk.out,bI.out,?_,bb.out,by omega,(Z _ (.inl rfl)).trans h4⟩
      rw [ci.out,da.out,au b2.out,DpS.sX]
      exact HG.out
     | true =>
      obtain ⟨v0,dl⟩:∃ v0,jB (N,J) d.S=some v0:=cC.1 bo.out.symm
      have bz:ov=v0:=by have:=gb.out;rw [dl] at this;exact this
      subst bz
      have eS:=ab dl
      clear dl
      by_cases heq:ov=M
      ·have gg:Hid (((N,J),M)∈d.S):=ab (b1.out.2 (by rw [eS.out,heq]))
       subst heq
       have gl:((⟨ov.toArray⟩:ByteArray)==⟨ov.toArray⟩)=true:=(cQ _ _).2 rfl
       have hD:((⟨ov.toArray⟩:ByteArray) != ⟨ov.toArray⟩)=false:=by rw [bne,gl];rfl
       gi_wp2
       refine ⟨⟨u.out.size,fun k o hk G hc=>fQ u.out (fO G) G⟩,gU.gD u.out (by have:=bD.out.1;obtain ⟨o,G,-⟩:=this;exact fO G) (by have:=bD.out.2.1;have:=F.size;omega) (by have:=bD.out.2.2.1;have:=F.size;omega),?_,H2.out.below u.out,by have:=u.out.size;omega,fQ u.out (fO h4) h4⟩
       rw [ci.out,da.out,aD gg.out]
       exact H1.out.below u.out
      ·have b2:Hid (¬((N,J),M)∈d.S):=ab fun hm=>by
        have h1:=b1.out.1 hm
        rw [eS.out] at h1
        exact heq (Option.some.inj h1)
       have hf:((⟨ov.toArray⟩:ByteArray)==⟨M.toArray⟩)=false:=by
        cases gn:((⟨ov.toArray⟩:ByteArray)==⟨M.toArray⟩) with
        | false=>rfl
        | true =>
         have e:=(cQ _ _).1 gn
         exact absurd (by injection e with e;simpa using e) heq
       have e7:(ov==M)=false:=aA.2 heq
       have hg:(!(ov==M))=true:=by rw [e7];rfl
       gi_wp2_with fail
       refine ⟨cL,(callsIn_wide.2 (eC.out _ u.out)).mono ?_⟩
       rintro e w' hU
       obtain ⟨ag,I,ap⟩:=ml.step R (am.below u.out) (F.trans (Ext.fT u.out)) hU
       obtain ⟨rfl,gc,-,bH,-⟩:=hU
       have Z:∀ k,k=wr.heap.size∨k=q∨k=r→w'.heap[k]?=V.heap[k]?:=fun k hk=>by
        obtain ⟨⟨o,G,dc⟩,e1,h8,h9⟩:=bD.out
        have ge:=F.size
        rcases hk with rfl | rfl | rfl
        ·rw [I _ o (fQ u.out (fO G) G) dc,G]
        ·refine (bH.block _ (by have:=u.out.size;omega) fun e=>b6.out ?_).trans (u.out.block _ (by omega))
         rcases e with e | e | e
         ·exact .inl e
         ·exact .inr (.inl e)
         ·exact .inr (.inr ((R _ e).elim id (fun h=>by omega)))
        ·refine (bH.block _ (by have:=u.out.size;omega) fun e=>br.out ?_).trans (u.out.block _ (by omega))
         rcases e with e | e | e
         ·exact .inl e
         ·exact .inr (.inl e)
         ·exact .inr (.inr ((R _ e).elim id (fun h=>by omega)))
       have HG:=ab ag
       have bb:=ab ((H2.out.below u.out).aside bs I)
       have bI:Hid (gU wr.heap.size q r V w'):=ab ⟨aH u.out.size ap,fun k hk=>Z k hk,fun k cs fz hk=>I k _ (fQ u.out (fO hk) hk) (kz (by decide) (by decide))⟩
       have dk:Hid (KeepsFrom W1.heap.size V w'):=ab ⟨aH u.out.size ap,fun k o hk G hc=>I k o (fQ u.out (fO G) G) ⟨(fun C fz e=>by rw [e] at hc;cases hc),(fun C fz e=>by rw [e] at hc;cases hc),(fun es cl e=>by omega)⟩⟩
       have e6:=bI.out.size
       clear ag I ap am R F
       gi_wp2
       refine ⟨dk.out,bI.out,?_,bb.out,by omega,(Z _ (.inl rfl)).trans h4⟩
       rw [ci.out,da.out,au b2.out,DpS.sX]
       exact HG.out
    case done2 =>
     rintro D2 ys V go rfl ⟨h1,h2,h3,h4⟩ a0
     have gp:=h2.defer
     have gq:D≠D2:=by omega
     have hE:=h1.ext.size
     rw [dY,Dg] at h1
     have ag:V.grownBy (V.putObj D2 (.deferred none)) (some D2):=grownBy_putObj' V D2 _
     have h5:=h1.wh (B:=W1.heap.size) ag (fun r e=>by cases e;exact ⟨go,_,a0,rfl⟩) (by omega) (by omega)
     have dn:(V.putObj D2 (.deferred none)).heap[D]?=some (.deferred (some [])):=(World.putObj_heap_other gq).trans gp
     have I:(V.putObj D2 (.deferred none)).grownBy ((V.putObj D2 (.deferred none)).putObj D (.deferred none)) (some D):=grownBy_putObj' _ D _
     have h6:=h5.wh (B:=w.heap.size+1) I (fun r e=>by cases e;exact ⟨by omega,_,dn,rfl⟩) (by omega) (by omega)
     refine ⟨by simp,.inl ⟨_,_,rfl,run_takeDeferred a0,by simp,.inl ⟨_,_,rfl,run_takeDeferred dn,?_⟩⟩⟩
     exact ⟨_,dF rfl _ _ _,rfl,h6⟩
    case stop2 =>
     rintro D c pre W _ _ h _
     exact h.elim
 case stop =>
  rintro D c pre W _ _ h _
  exact h.elim
end Go.Proofs.YtkkfmkhbdoeglabGreatDoor
