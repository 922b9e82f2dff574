/- A part of what is proved here: lemmas and contracts of single functions. No condition but those that each names. -/
import Derived.Test.YtkkfmkhbdoeglabGreatDoorG00
import Derived.Deep.CutBlock
import Derived.Deep.CutRange
import Derived.Laws.IdiomCopy
import Derived.Shelf.Spec.SlicesInsert
import Derived.StillTailTactics
import Derived.Test.YtkkfmkhbdoeglabGreatDoorG09
import Derived.Test.YtkkfmkhbdoeglabGreatDoorG23
import Derived.Test.YtkkfmkhbdoeglabGreatDoorG24
set_option maxHeartbeats 4000000
set_option maxRecDepth 100000
namespace Go.Proofs.YtkkfmkhbdoeglabGreatDoor
open Go.RowKit Go.Shelf
theorem E0 {P:Program} (w:World) (u y ty elem:TypeId) (k n:Nat) (b o d q:Nat) (a:Addr) (l r:Nat) (cs:List Value)
  (hu:P.underlying u=some (.slice elem)) (hs:(P.info? elem).map (·.size)=some k) (B:n=Nat.min l d) (hl:cs.length=n*k)
  (s:∀ j v,cs[j]?=some v→w.cell? (a.add j)=some v) (hc:∀ j,j<cs.length→(w.cell? ⟨b,o+j,none⟩).isSome=true) (C:∀ j,j<cs.length→w.frozen? ⟨b,o+j,none⟩=false) (h1:∀ v∈cs,v.oneCell'=true) :
  (Builtin.copy_ #[u,y] ty #[.slice (some ⟨b,o,none⟩) d q,.slice (some a) l r]).run P w = .ok (goInt n) (w.setCells b o cs):=by
 have m:=run_loadCells_list (P:=P) w a cs s
 have x:=run_storeCells_cells (P:=P) b o cs 0 w (by simpa using hc) (by simpa using C) h1
 rw [hl] at m
 cases hq:P.info? elem with
 | none=>simp [hq] at hs
 | some i =>
  have D:i.size=k:=by simpa [hq] using hs
  simp [Builtin.copy_,aL hu,Builtin.lenOf,Builtin.firstCells,sizeOf,typeInfo,hq,D,←B,m,x]
theorem OwnS.setCells {w:World} {base k n g go cap:Nat} {xs:List Value} (h:OwnS w base k (.slice (some ⟨g,go,none⟩) n cap) n xs) (p:Nat) (b:List Value) (y:p+b.length≤xs.length) :
  OwnS (w.setCells g (go+p) b) base k (.slice (some ⟨g,go,none⟩) n cap) n (xs.take p++b++xs.drop (p+b.length)):=by
 obtain ⟨hl,h | ⟨B,u,cap',e,s,q,r,hm,hc,o⟩⟩:=h
 ·cases h.1
 ·cases e
  have x:n*k≤cap*k:=cR _ r
  have d:∀ j,j<b.length→(w.cell? ⟨g,go+p+j,none⟩).isSome=true:=fun j C=>by
   rw [aW]
   exact (o (p+j) (by omega)).1
  refine ⟨by simp only [aq,az,bg];omega,.inr ⟨g,go,cap,rfl,s,by rw [size_setCells];exact q,r,hm,fun i l => ?_,fun i l=>⟨?_,?_⟩⟩⟩
  ·have m:i<xs.length:=by simp only [aq,az,bg] at l;omega
   have D:(xs.take p).length=p:=by rw [az];omega
   by_cases h1:i<p
   ·rw [World.cell?_setCells_out g b (go+p) w ⟨g,go+i,none⟩ (fun _ _ => .inl (by show go+i<go+p;omega)),hc i m]
    congr 1
    rw [cW (by simp only [aq];omega),cW (by omega),List.getElem_take]
   ·by_cases h2:i<p+b.length
    ·have:=World.cell?_setCells_in g b (go+p) w d (i-p) (by omega)
     rw [show go+p+(i-p)=go+i by omega] at this
     rw [this]
     congr 1
     rw [cW (by simp only [aq];omega),dL (by omega)]
     congr 1
     omega
    ·rw [World.cell?_setCells_out g b (go+p) w ⟨g,go+i,none⟩ (fun _ _ => .inr (by show go+p+b.length≤go+i;omega)),hc i m]
     congr 1
     rw [dL (by simp only [aq];omega),List.getElem_drop]
     congr 1
     simp only [aq]
     omega
  ·by_cases h2:p≤i∧i<p+b.length
   ·have:=World.cell?_setCells_in g b (go+p) w d (i-p) (by omega)
    rw [show go+p+(i-p)=go+i by omega] at this
    rw [this]
    rfl
   ·rw [World.cell?_setCells_out g b (go+p) w ⟨g,go+i,none⟩ (fun _ _=>by show go+i<go+p∨go+p+b.length≤go+i;omega)]
    exact (o i l).1
  ·rw [World.frozen?_setCells]
   exact (o i l).2
theorem oU {b:Nat} {e:TypeId} : ∀ (d:List Value) (o:Nat) (w:World),(∃ C fz,w.heap[b]?=some (.cells C e fz))→∃ C fz,(w.setCells b o d).heap[b]?=some (.cells C e fz)
 | [],_,_,h=>h
 | v::d,o,w,h=>by
  rw [World.setCells]
  refine oU d _ _ ?_
  obtain ⟨C,fz,i⟩:=h
  refine ⟨C.setIfInBounds o v,fz,?_⟩
  unfold World.setCell
  simp
  obtain ⟨h1,h2⟩:=cm.1 i
  simp [eM,i]
theorem CellsOf.setCells {w:World} {g go n cap:Nat} {e:TypeId} (h:CellsOf w (.slice (some ⟨g,go,none⟩) n cap) e) (p:Nat) (d:List Value):CellsOf (w.setCells g p d) (.slice (some ⟨g,go,none⟩) n cap) e:=fun b i=>by
 cases i
 exact oU d p w (h g rfl)
theorem H7 {S:List E} (_hS:SortedE S) (k:K) (v:List UInt8) (i:Nat) (b:∀ x∈S.take i,oa x.1 k=true) (d:∀ x∈S.drop i,oa k x.1=true):ke k v S=S.take i++(k,v)::S.drop i:=by
 unfold ke
 have l:S.filter (fun x=>oa x.1 k)=S.take i:=by
  conv=>lhs;rw [←cw i S]
  rw [eo,fm.2 b,eI.2 fun x j => ?_,cM]
  rw [lO (d x j)]
  decide
 have m:S.filter (fun x=>oa k x.1)=S.drop i:=by
  conv=>lhs;rw [←cw i S]
  rw [eo,fm.2 d,eI.2 fun x j => ?_,aO]
  rw [lO (b x j)]
  decide
 rw [l,m]
theorem wpList_append_own {ops:Array Oper} {rest:List Oper} {o:Oper} {a:Act} {Q:Exit→Act→World→Prop} {w:World} (y:o.guard=none) (s x:Operand) (t e:TypeId) (k b:Nat) (z:Value)
  (B:Tryz.prog.underlying t=some (.slice e)) (j:(Tryz.prog.info? e).map (fun i=>(i.zero,i.size,i.bytes))=some (some z,k,b)) (C:z.cells.size=k) (hk:0<k)
  (F:o.op = .call {callee := .builtin .append,args:=#[s,x],argTypes:=#[t,t]})
  (base:Nat) (v:Value) (n:Nat) (xs:List Value) (G:a.eval s=v) (r:OwnS w base k v n xs) (I:CellsOf w v e) (m:Nat) (news:List Value) (hs:fW w (a.eval x) k m news) (h1:∀ u∈news,u.oneCell'=true)
  (hlen:n+m≤9223372036854775807) (d:(n+m)*b≤140737488355328) (l:base≤w.heap.size)
  (h:∀ v' w',OwnS w' base k v' (n+m) (xs++news)→w.grownBy w' v.ownBlock→CellsOf w' v' e→(∀ b,v'.ownBlock=some b→v.ownBlock=some b∨b=w.heap.size)→wpList Tryz.prog ops Q rest (a.put o.dst v') w'):wpList Tryz.prog ops Q (o::rest) a w:=by
 obtain ⟨i0,J,D,q,E⟩:=dD j
 exact eK y fun K hK=>j9 s x _ _ F base k e i0 z B J D q (by rw [q];exact C) (by omega) v n xs G r I m news (fW.src B hs h1) hlen (by rw [E];exact d) l fun v' w' h1 h2 h3 h4=>hK _ _ (h v' w' h1 h2 h3 h4)
theorem Hw {w:World} {base g go n cap k:Nat} {L:List E} {b d i:Value} (h:OwnS w base 3 (.slice (some ⟨g,go,none⟩) (n+1) cap) (n+1) ((entCells L).take (k*3)++[b,d,i]++(entCells L).drop (k*3))) (y:L.length=n) (hk:k≤n) :
  w.cell? ⟨g,go+k*3,none⟩=some b∧w.cell? ⟨g,go+k*3+1,none⟩=some d∧w.cell? ⟨g,go+k*3+2,none⟩=some i∧w.frozen? ⟨g,go+k*3,none⟩=false∧w.frozen? ⟨g,go+k*3+1,none⟩=false∧w.frozen? ⟨g,go+k*3+2,none⟩=false:=by
 have hl:=kc L
 have s:((entCells L).take (k*3)).length=k*3:=by rw [az];omega
 obtain ⟨-,o | ⟨B,u,cap',e,-,-,l,-,hc,q⟩⟩:=h
 ·cases o.1
 cases e
 have r:(n+1)*3≤cap*3:=cR _ l
 have key:∀ j (m:j<[b,d,i].length),w.cell? ⟨g,go+k*3+j,none⟩=some [b,d,i][j]∧w.frozen? ⟨g,go+k*3+j,none⟩=false:=fun j m=>by
  have x:j<3:=m
  rw [aW]
  refine ⟨?_,(q (k*3+j) (by omega)).2⟩
  rw [hc (k*3+j) (by simp only [aq,bg,ar,aJ];omega)]
  congr 1
  rw [cW (by simp only [aq,ar,aJ];omega),dL (by omega)]
  congr 1
  omega
 exact ⟨(key 0 (by simp)).1,(key 1 (by simp)).1,(key 2 (by simp)).1,(key 0 (by simp)).2,(key 1 (by simp)).2,(key 2 (by simp)).2⟩
theorem Er (w:World):fW (w.alloc (.cells #[.int .i64 0,.string ⟨#[]⟩,.string ⟨#[]⟩] 101)) (.slice (some ⟨w.heap.size,0,none⟩) 1 1) 3 1 [.int .i64 0,.string ⟨#[]⟩,.string ⟨#[]⟩]:=by
 refine ⟨rfl,_,1,rfl,af _,fun i b=>⟨_,0,rfl,?_⟩⟩
 rw [lY]
 obtain rfl | rfl | rfl:i=0∨i=1∨i=2:=by simp at b;omega
 ·rfl
 ·rfl
 ·rfl
theorem rB (gb go n cap i:Nat) (a:Int) (ha:a=(i:Int)) (b:i≤n) (hc:¬cap=i) (w:World) :
  (Instr.slice 23 (.slice (some ⟨gb,go,none⟩) n cap) (some (.int .i64 a)) none none).run Tryz.prog w = .ok (.slice (some ⟨gb,go+i*3,none⟩) (n-i) (cap-i)) w:=by
 subst ha
 have hu:Tryz.prog.underlying 23=some (.slice (Tryz.prog.elem 23)):=by kernel_rfl
 have hs:(sizeOf (Tryz.prog.elem 23)).run Tryz.prog w = .ok 3 w:=by kernel_rfl
 rw [run_slice_l (P:=Tryz.prog) (w:=w) 23 (some ⟨gb,go,none⟩) n cap hu .i64 (i:Int) (by omega) (by omega),hs]
 simp [Result.andThen,sliced,Addr.add,hc]
theorem sV (gb go n cap i:Nat) (a:Int) (ha:a=(i:Int)) (b:i≤n) (hc:cap=i) (w:World) :
  (Instr.slice 23 (.slice (some ⟨gb,go,none⟩) n cap) (some (.int .i64 a)) none none).run Tryz.prog w = .ok (.slice (some ⟨gb,go,none⟩) (n-i) (cap-i)) w:=by
 subst ha
 have hu:Tryz.prog.underlying 23=some (.slice (Tryz.prog.elem 23)):=by kernel_rfl
 have hs:(sizeOf (Tryz.prog.elem 23)).run Tryz.prog w = .ok 3 w:=by kernel_rfl
 rw [run_slice_l (P:=Tryz.prog) (w:=w) 23 (some ⟨gb,go,none⟩) n cap hu .i64 (i:Int) (by omega) (by omega),hs]
 simp [Result.andThen,sliced,hc]
theorem E5 {w:World} {base g go n cap k m:Nat} {xs:List Value} {z:List Value} (h:OwnS w base 3 (.slice (some ⟨g,go,none⟩) (n+1) cap) (n+1) (xs++z)) (M:xs.length=n*3) (N:z.length=3) (hk:k≤n) (b:cap=k+1∨m=go+(k+1)*3) (h1:∀ u∈xs,u.oneCell'=true) (ty:TypeId) :
  ∃ w' q,(Builtin.copy_ #[23,23] ty #[.slice (some ⟨g,m,none⟩) (n-k) (cap-(k+1)),.slice (some ⟨g,go+k*3,none⟩) (n+1-k) (cap-k)]).run Tryz.prog w = .ok (goInt (n-k:Nat)) w'∧
   OwnS w' base 3 (.slice (some ⟨g,go,none⟩) (n+1) cap) (n+1) (xs.take (k*3)++q++xs.drop (k*3))∧q.length=3∧w.grownBy w' (some g)∧w'.heap.size=w.heap.size∧∀ e,CellsOf w (.slice (some ⟨g,go,none⟩) (n+1) cap) e→CellsOf w' (.slice (some ⟨g,go,none⟩) (n+1) cap) e:=by
 have B:=h
 obtain ⟨hl,C | ⟨O,G,cap',e,Q,I,r,hm,hc,s⟩⟩:=B
 ·cases C.1
 cases e
 have d:=OwnS.setCells h ((k+1)*3) (xs.drop (k*3)) (by rw [aq,bg];omega)
 have x:(xs.drop (k*3)).length=(n-k)*3:=by rw [bg];omega
 have l:=E0 (P:=Tryz.prog) w 23 23 ty 101 3 (n-k) g m (n-k) (cap-(k+1)) ⟨g,go+k*3,none⟩ (n+1-k) (cap-k) (xs.drop (k*3)) Tryz.underlying23 (by kernel_rfl) (by
   show n-k=min (n+1-k) (n-k)
   omega) x (fun j v o=>by
   rw [eZ]
   obtain ⟨J,y⟩:=aF.1 o
   have:=hc (k*3+j) (by rw [aq];omega)
   rw [cW (by omega)] at this
   show w.cell? ⟨g,go+k*3+j,none⟩=some v
   rw [aW,this,←y,List.getElem_drop]) (fun j o=>by
   rcases b with b | b
   ·omega
   ·have:=(s ((k+1)*3+j) (by have:(k+1)*3+j<(n+1)*3:=by omega
                             have:(n+1)*3≤cap*3:=cR _ r
                             omega)).1
    rw [b,aW]
    exact this) (fun j o=>by
   rcases b with b | b
   ·omega
   ·have:=(s ((k+1)*3+j) (by have:(k+1)*3+j<(n+1)*3:=by omega
                             have:(n+1)*3≤cap*3:=cR _ r
                             omega)).2
    rw [b,aW]
    exact this) (fun v D=>h1 v (List.drop_subset _ _ D))
 have hw:w.setCells g m (xs.drop (k*3))=w.setCells g (go+(k+1)*3) (xs.drop (k*3)):=by
  rcases b with b | b
  ·have:xs.drop (k*3)=[]:=bK (by omega)
   rw [this]
   rfl
  ·rw [b]
 rw [hw] at l
 refine ⟨_,((xs++z).drop (k*3)).take 3,l,?_,by rw [az,bg,aq];omega,mq _ _ _ _,size_setCells _ _ _ _,fun e he=>he.setCells _ _⟩
 have E:(xs++z).drop ((k+1)*3+(xs.drop (k*3)).length)=[]:=fI (by rw [aq];omega)
 rw [E,cM] at d
 have F:(xs++z).take ((k+1)*3)=xs.take (k*3)++((xs++z).drop (k*3)).take 3:=by
  rw [show (k+1)*3=k*3+3 by omega,List.take_add]
  rw [eG (i:=k*3) (by omega)]
 rw [F] at d
 exact d
theorem ri (L:List E) (k:Nat) (hk:k≤L.length):entCells (L.take k)=(entCells L).take (k*3)∧entCells (L.drop k)=(entCells L).drop (k*3):=by
 have e:entCells L=entCells (L.take k)++entCells (L.drop k):=by rw [←pS,cw]
 have hl:(entCells (L.take k)).length=k*3:=by rw [kc,az,Nat.min_eq_left hk]
 rw [e]
 exact ⟨(List.take_left' hl).symm,(List.drop_left' hl).symm⟩
theorem H9 {w:World} {base g go n cap k:Nat} {L:List E} {x:E} {b:List Value} (h:OwnS w base 3 (.slice (some ⟨g,go,none⟩) (n+1) cap) (n+1) ((entCells L).take (k*3)++b++(entCells L).drop (k*3))) (o:L.length=n) (hk:k≤n) (q:b.length=3) :
  OwnS (w.setCells g (go+k*3) [.int .i64 x.1.1,.string ⟨x.1.2.toArray⟩,.string ⟨x.2.toArray⟩]) base 3 (.slice (some ⟨g,go,none⟩) (n+1) cap) (L.take k++x::L.drop k).length (entCells (L.take k++x::L.drop k)):=by
 have hl:=kc L
 have d:((entCells L).take (k*3)).length=k*3:=by rw [az];omega
 have h2:=h.setCells (k*3) [.int .i64 x.1.1,.string ⟨x.1.2.toArray⟩,.string ⟨x.2.toArray⟩] (by simp only [aq,bg,ar,aJ];omega)
 have e0:(L.take k++x::L.drop k).length=n+1:=by simp;omega
 have j:entCells (L.take k++x::L.drop k)=(entCells L).take (k*3)++[.int .i64 x.1.1,.string ⟨x.1.2.toArray⟩,.string ⟨x.2.toArray⟩]++(entCells L).drop (k*3):=by
  rw [pS,(ri L k (by omega)).1,←(ri L k (by omega)).2,bj]
  rfl
 have l:((entCells L).take (k*3)++b++(entCells L).drop (k*3)).take (k*3)=(entCells L).take (k*3):=by
  rw [bj]
  exact List.take_left' d
 have m:((entCells L).take (k*3)++b++(entCells L).drop (k*3)).drop (k*3+3)=(entCells L).drop (k*3):=List.drop_left' (by rw [aq];omega)
 rw [e0,j]
 rw [l] at h2
 have i:((entCells L).take (k*3)++b++(entCells L).drop (k*3)).drop (k*3+[Value.int .i64 x.1.1,.string ⟨x.1.2.toArray⟩,.string ⟨x.2.toArray⟩].length)=(entCells L).drop (k*3):=m
 rw [i] at h2
 exact h2
theorem tu (w:World) (a b:Nat):(w.drewN a).drewN b=w.drewN (a+b):=by
 unfold World.drewN
 simp [aW]
theorem zo (l:List E):(gV l).length≤l.length:=by
 have key:∀ (l:List E) (S:List E),SortedE S→(l.foldl (fun S x=>ke x.1 x.2 S) S).length≤S.length+l.length:=by
  intro l
  induction l with
  | nil=>exact fun S h=>af _
  | cons x l ih =>
    intro S h
    have h1:=ih _ (sorted_put x.1 x.2 h)
    have h2:=uC x.1 x.2 S h
    simp only [eL,ar]
    omega
 have:=key l [] SortedE.nil
 simp only [aJ,bG] at this
 exact this
theorem Hn:(Tryz.prog.info? 101).map (fun i=>(i.zero,i.size,i.bytes))=some (some (.agg #[.int .i64 0,.string ⟨#[]⟩,.string ⟨#[]⟩]),3,40):=by kernel_rfl
theorem EE (h:Nat) (x:HV) (S:List E) (w:World) (hh:HostIs w h x) (ht:TabAt w x.r S) (hS:S.length≤1000000) :
  Calls Tryz.prog 64 #[.pointer (some ⟨h,0,none⟩)] w fun e w'=>∃ v,e = .returned v∧iJ w' v S∧Below w.heap.size w w':=by
 obtain ⟨r,hr⟩:∃ r,r=x.r:=⟨_,rfl⟩
 have ag:=fO hh
 unfold HostIs HV.cells at hh
 have c8:=ae _ _ 10 _ _ _ hh
 simp only [bQ,aY,bB] at c8
 rw [←hr] at c8 ht
 have fn:=ht.lt
 have dc:=ab ht.1
 obtain ⟨bI,L,cr,hp⟩:=ht
 have HP:=ab hp
 have HN:=ab bI.nodup
 clear bI hp hh hr
 go_enter Tryz.func64,Tryz.ntmps64
 go_wp2_with (first | (refine kg rfl _ rfl Tryz.underlying123 rfl cr ?_;intro w1 ct dl fo) | fail)
 try go_frame
 go_loopw [3] (fun v wr=>∃ l:List E,gB wr r w.heap.size L (l.map zS)∧OwnS wr (w.heap.size+1) 3 v (gV l).length (entCells (gV l))∧CellsOf wr v 101∧Below w.heap.size w wr) (fun _ wr=>wr.rangeLeft r w.heap.size)
 case atStart=>exact ⟨[],ct,OwnS.nil _ _ _,CellsOf.nil _ _,dl⟩
 case round =>
  obtain ⟨l,Q,C,bL,a0⟩:=hrel
  go_wp2_with (first | (refine kK rfl _ rfl rfl Q ?_ ?_) | fail)
  ·intro dn
   have dp:=ab (qS (kH Q.sub.2.2) HN.out (dn.trans HP.out))
   obtain ⟨va,vc,rfl⟩:=C.shape
   go_wp2
   refine aI (v := .slice va (gV l).length vc) (by simp [results]) rfl ⟨_,rfl,?_,a0⟩
   rw [yl dc.out dp.out] at C⊢
   exact C.Jd
  ·intro d s v w2 V bM a9 ba bN ds fp
   obtain ⟨⟨k',B⟩,dv,e⟩:=aB.1 (HP.out.mem_iff.1 V)
   cases e
   have bb:gB w2 r w.heap.size L ((l++[((d,s),B)]).map zS):=by rw [bm];exact a9
   have bc:=ab bb
   unfold kU at ds
   obtain ⟨va,vc,rfl⟩:=C.shape
   have a1:Below w.heap.size w w2:=a0.grown ba a0.size (fun j e=>by cases e;exact af _)
   have X:OwnS w2 (w.heap.size+1) 3 (.slice va (gV l).length vc) (gV l).length (entCells (gV l)):=C.grown ba fun b hb e=>by
    cases e
    have:=C.gh _ hb
    omega
   have bi:=bL.kept ba fun b hb e=>by
    cases e
    have:=C.gh _ hb
    omega
   have hlen:(gV l).length≤1000000:=by
    have h1:=zo l
    have h2:l.length≤S.length:=rM (kH Q.sub.2.2) (fun y hy=>tH (HP.out.mem_iff.1 (Q.sub.1 _ (aB.2 ⟨y,hy,rfl⟩))))
    omega
   have hle:=Q.left
   have dT:=ab bM
   have bk:=Q.sub.2.2
   rw [qM] at bk
   have d8:=ab bk
   have ak:Below w2.heap.size w2 (((w2.alloc (.cells #[.int .i64 d,.string ⟨s.toArray⟩] 103)).alloc (.cells #[.string ⟨B.toArray⟩] 179)).alloc (.cells #[.int .i64 d,.string ⟨s.toArray⟩,.string ⟨B.toArray⟩] 101)):=(((Below.refl _ w2).alloc (af _) _).alloc (by simp) _).alloc (by simp;omega) _
   have Y:=fR ((w2.alloc (.cells #[.int .i64 d,.string ⟨s.toArray⟩] 103)).alloc (.cells #[.string ⟨B.toArray⟩] 179)) (.cells #[.int .i64 d,.string ⟨s.toArray⟩,.string ⟨B.toArray⟩] 101)
   rw [aw,aw] at Y
   have a2:=ab Y
   have bO:=ab (X.below ak)
   have bP:=ab X.gP
   have d9:=ab (bi.frame fun b _ ag=>ak.block b ag)
   have bS:=ab (a1.trans (ak.mono a1.size))
   have bl:=ab ak
   have ea:=ab hle
   have fr:=ab bN
   clear a9 bb V dv Q C X bL bi a1 a0 ak Y bN hle bM bk
   go_upto_block 2 with fail
   generalize ((w2.alloc (.cells #[.int .i64 d,.string ⟨s.toArray⟩] 103)).alloc (.cells #[.string ⟨B.toArray⟩] 179)).alloc (.cells #[.int .i64 d,.string ⟨s.toArray⟩,.string ⟨B.toArray⟩] 101)=w5 at *
   have e0:w5.cell? ⟨w2.heap.size+1+1,0,none⟩=some (.int .i64 d):=ae _ _ 0 _ _ _ a2.out
   have go:w5.cell? ⟨w2.heap.size+1+1,1,none⟩=some (.string ⟨s.toArray⟩):=ae _ _ 1 _ _ _ a2.out
   have e2:w5.cell? ⟨w2.heap.size+1+1,2,none⟩=some (.string ⟨B.toArray⟩):=ae _ _ 2 _ _ _ a2.out
   go_cut [7] from 13 to 79 (fun i wx=>∃ k:Nat,k≤(gV l).length∧i = .int .i64 (k:Int)∧(∀ x∈(gV l).drop k,oa (d,s) x.1=true)∧(∀ x∈(gV l).take k,oa x.1 (d,s)=true)∧∃ q,wx=w5.drewN q)
   case first =>
    go_wp2_with fail
    go_loopw [7] (fun i wq=>∃ k:Nat,k≤(gV l).length∧i = .int .i64 (k:Int)∧(∀ x∈(gV l).drop k,oa (d,s) x.1=true)∧∃ q,wq=w5.drewN q) (fun i _=>(intOf i).toNat)
    case atStart=>exact ⟨_,af _,rfl,by simp,0,rfl⟩
    case round =>
     obtain ⟨k,hk,rfl,G,q,rfl⟩:=hrel
     by_cases fv:0<k
     ·obtain ⟨m,rfl⟩:∃ m,k=m+1:=⟨k-1,by omega⟩
      have d0:decide ((0:Int)<((m+1:Nat):Int))=true:=by simp
      have d1:(((m+1:Nat):Int))-1=(m:Int):=by omega
      have d6:IntKind.i64.wrap (m:Int)=(m:Int):=IntWalk.i64_in _ (by omega)
      have d7:(m:Int)<(gV l).length:=by omega
      have ho:=bO.out.Jd
      obtain ⟨ra,rc,re,-,bX⟩:=ho.opened
      cases re
      obtain ⟨g,off,rfl,c0,c1,c2⟩:=bX m (by omega)
      generalize a3:(gV l)[m]=x0 at c0 c1 c2
      obtain ⟨⟨F,I⟩,xv⟩:=x0
      clear bX ho
      have b0:(gV l).drop m=((F,I),xv)::(gV l).drop (m+1):=by
       rw [b9 (by omega),a3]
      have b1:(gV l).take (m+1)=(gV l).take m++[((F,I),xv)]:=by
       rw [aT (by omega),a3]
      have am:SortedE ((gV l).take (m+1)):=(pA l).take _
      have bn:oa (F,I) (d,s)=true→∀ x∈(gV l).take (m+1),oa x.1 (d,s)=true:=fun h0 x V=>by
       rw [b1] at V am
       rcases bE.1 V with V | V
       ·exact nG ((dS.1 am).2.2 x V _ (ax.2 rfl)) h0
       ·rw [ax.1 V]
        exact h0
      have bo:=ab bn
      have b2:=ab b0
      have eg:Hid ((F,I)≠(d,s)):=ab fun e=>by
       have h1:((F,I),xv)∈gV l:=by rw [←a3];exact cD _
       rw [yk d8.out] at h1
       exact dT.out _ _ _ h1 e
      clear bn b1 am b0 a3
      by_cases ht:d<F
      ·have d2:decide (d<F)=true:=cK ht
       go_wp2
       go_quiet (fail)
       go_wp2
       refine ⟨⟨m,by omega,rfl,?_,_,rfl⟩,by simp [intOf]⟩
       rw [b2.out]
       exact List.forall_mem_cons.2 ⟨by rw [nt];exact .inl ht,G⟩
      ·have d2:decide (d<F)=false:=bY ht
       by_cases br:d=F
       ·obtain rfl:=br
        by_cases hs:s<I
        ·have d4:Op.bytesLess I s=false:=by rw [bytesLess_eq];exact bY (List.not_lt.2 (List.le_of_lt hs))
         have d5:(I==s)=false:=aA.2 fun e=>eW s (by rw [e] at hs;exact hs)
         have ej:=ab hs
         clear hs
         go_wp2
         go_quiet (fail)
         go_wp2
         refine ⟨⟨m,by omega,rfl,?_,_,rfl⟩,by simp [intOf]⟩
         rw [b2.out]
         exact List.forall_mem_cons.2 ⟨by rw [nt];exact .inr ⟨rfl,ej.out⟩,G⟩
        ·have M:Hid (oa (d,I) (d,s)=true):=ab (by
          rcases vh (d,I) (d,s) with h | h | h
          ·exact h
          ·exact absurd h eg.out
          ·rw [nt] at h
           rcases h with h | h
           ·exact absurd h (by show ¬d<d;omega)
           ·exact absurd h.2 hs)
         have d4:Op.bytesLess I s=true:=by
          rw [bytesLess_eq]
          refine cK ?_
          have h:=M.out
          rw [nt] at h
          rcases h with h | h
          ·exact absurd h (by show ¬d<d;omega)
          ·exact h.2
         clear hs
         go_wp2
         go_quiet (fail)
         go_wp2
         go_meet
         exact ⟨_,hk,rfl,G,bo.out M.out,_,by first | rfl | exact tu _ _ _⟩
       ·have el:¬F=d:=dx br
        have d3:decide (F=d)=false:=bY el
        have M:Hid (oa (F,I) (d,s)=true):=ab (by rw [nt];exact .inl (by show F<d;omega))
        clear br
        go_wp2
        go_quiet (fail)
        go_wp2
        go_meet
        exact ⟨_,hk,rfl,G,bo.out M.out,_,by first | rfl | exact tu _ _ _⟩
     ·obtain rfl:k=0:=by omega
      go_wp2
      go_quiet (fail)
      go_wp2
      go_meet
      exact ⟨0,hk,rfl,G,by simp,_,by first | rfl | exact tu _ _ _⟩
   case rest =>
    obtain ⟨k,hk,rfl,G,b3,q,rfl⟩:=hcut
    have bs:Hid (gV (l++[((d,s),B)])=(gV l).take k++((d,s),B)::(gV l).drop k):=ab (by
     rw [wE]
     exact H7 (pA l) _ _ k b3 G)
    have cB:=bs
    have R:=ab ((Below.refl w5.heap.size w5).drewN q)
    have fz:(k:Int)≤(gV l).length:=by omega
    have b4:=ab (bO.out.below R.out)
    have em:=ab (d9.out.frame (w':=w5.drewN q) fun b _ ag=>R.out.block b ag)
    have bt:=ab (bS.out.trans (R.out.mono bS.out.size))
    have b5:Hid ((w5.drewN q).heap[w2.heap.size+1+1]?=some (.cells #[.int .i64 d,.string ⟨s.toArray⟩,.string ⟨B.toArray⟩] 101 (0,0))):=ab a2.out
    clear G b3 bs e0 go e2
    generalize w5.drewN q=w6 at *
    have b6:=fun o=>ab (Below.al (Below.rf w6) o)
    have c3:=ab (Er w6)
    have e7:=ab hlen
    go_wp2_with (first | (refine wpList_append_own rfl (.tmp 64) (.tmp 66) 23 101 3 40 _ Tryz.underlying23 Hn rfl (by omega) rfl (w.heap.size+1) (.slice va (gV l).length vc) (gV l).length (entCells (gV l)) rfl (by exact b4.out.below (b6 _).out) (by exact em.out.frame fun b _ hb=>(b6 _).out.block b hb) 1 [.int .i64 0,.string ⟨#[]⟩,.string ⟨#[]⟩] (by exact c3.out) (by intro u hu;simp at hu;rcases hu with rfl | rfl <;> rfl) (by omega) (by omega) (by have:=bt.out.size;rw [aw];omega) ?_;intro v7 Z N b7 ap b8) | fail)
    obtain ⟨g7,D,J,rfl,fB⟩:∃ g7 D J,v7 = .slice (some ⟨g7,D,none⟩) ((gV l).length+1) J∧(gV l).length+1≤J:=by
     obtain ⟨-,h0 | ⟨g',er,cap',e,hg,ag,hn,-⟩⟩:=N
     ·omega
     ·exact ⟨g',er,cap',e,hn⟩
    have c4:=rB g7 D ((gV l).length+1) J k (k:Int) rfl (by omega) (by omega)
    obtain ⟨o1,bv,c6⟩:∃ o1,(J=k+1∨o1=D+(k+1)*3)∧∀ w:World,(Instr.slice 23 (.slice (some ⟨g7,D,none⟩) ((gV l).length+1) J) (some (.int .i64 ((k:Int)+1))) none none).run Tryz.prog w = .ok (.slice (some ⟨g7,o1,none⟩) ((gV l).length-k) (J-(k+1))) w:=by
     by_cases hc:J=k+1
     ·exact ⟨D,.inl hc,fun w=>by rw [sV g7 D _ J (k+1) _ (by omega) (by omega) hc,Nat.add_sub_add_right]⟩
     ·exact ⟨D+(k+1)*3,.inr rfl,fun w=>by rw [rB g7 D _ J (k+1) _ (by omega) (by omega) hc,Nat.add_sub_add_right]⟩
    have bw:k≤(gV l).length:=by omega
    obtain ⟨w8,ys,ca,a4,cb,ce,ci,bx⟩:=E5 (w:=Z.drew) (n:=(gV l).length) (xs:=entCells (gV l)) (z:=[.int .i64 0,.string ⟨#[]⟩,.string ⟨#[]⟩]) N (kc _) rfl bw bv (ze _) 3
    have f3:IntKind.i64.wrap ((k:Int)+1)=(k:Int)+1:=IntWalk.i64_in _ (by omega)
    have eD:=ab N
    have U:=ab b7
    have f4:=ab ap
    have eS:=ab b8
    have cl:=ab a4
    have a5:=ab ce
    have f5:=ab ci
    have eT:=ab (bx _ ap)
    have f6:=ab bv
    have eV:=ab cb
    have e1:=ab ca
    clear N b7 ap b8 a4 ce ci bx bv cb ca
    go_still_tail 7,(by kernel_rfl)
    change wpList _ _ _ _ _ Z.drew
    refine wpList_copy_runI Z.drew rfl (.tmp 71) (.tmp 74) 23 23 rfl _ _ rfl rfl e1.out ?_
    obtain ⟨y0,y1,y2,rfl⟩:∃ a b c,ys=[a,b,c]:=by
     have:=eV.out
     match ys,this with
     | [a,b,c],_=>exact ⟨a,b,c,rfl⟩
    have c7:w.heap.size+1≤g7:=eD.out.gh g7 rfl
    have av:∀ j,(Value.slice va (gV l).length vc).ownBlock=some j→w.heap.size+1≤j:=fun j e=>b4.out.gh j e
    have co:∀ j,j≤w.heap.size→j<w2.heap.size→w8.heap[j]?=w2.heap[j]?:=fun j hj bz=>by
     have s5:=bl.out.size
     have s6:=R.out.size
     have t1:w8.heap[j]?=Z.heap[j]?:=a5.out.block j (by have:=U.out.size;rw [aw] at this;show j<Z.heap.size;omega) fun e=>by cases e;omega
     have t2:=U.out.block j (by rw [aw];omega) fun e=>by have:=av j e.symm;omega
     rw [t1,t2,heap_alloc_old _ _ (by omega),R.out.block j (by omega),bl.out.block j bz]
    have O:Hid (w8.heap[w2.heap.size+1+1]?=some (.cells #[.int .i64 d,.string ⟨s.toArray⟩,.string ⟨B.toArray⟩] 101 (0,0))):=ab (by
     have s6:=fO b5.out
     have t1:=a5.out.block (w2.heap.size+1+1) (by have:=U.out.size;rw [aw] at this;show _<Z.heap.size;omega) fun e=>by
      cases e
      rcases eS.out (w2.heap.size+1+1) rfl with h | h
      ·have h':w2.heap.size+1+1<w2.heap.size:=bP.out _ h
       omega
      ·rw [aw] at h
       omega
     have t2:=U.out.block (w2.heap.size+1+1) (by rw [aw];omega) fun e=>by have:=bP.out _ e.symm;omega
     rw [t1]
     show Z.heap[_]?=_
     rw [t2]
     exact fX _ _ b5.out)
    have bD:Below w.heap.size w w8:=by
     have h1:=(bt.out.alloc (o:=(.cells #[.int .i64 0,.string ⟨#[]⟩,.string ⟨#[]⟩] 101)) bt.out.size)
     have h2:=h1.grown U.out h1.size fun j e=>by have:=av j e;omega
     exact (Below.drew h2).grown a5.out h2.size fun j e=>by cases e;omega
    have aE:Hid (∀ W,W=w8.setCells g7 (D+k*3) [.int .i64 d,.string ⟨s.toArray⟩,.string ⟨B.toArray⟩]→(∃ l':List E,gB W r w.heap.size L (l'.map zS)∧OwnS W (w.heap.size+1) 3 (.slice (some ⟨g7,D,none⟩) ((gV l).length+1) J) (gV l').length (entCells (gV l'))∧CellsOf W (.slice (some ⟨g7,D,none⟩) ((gV l).length+1) J) 101∧Below w.heap.size w W)∧W.rangeLeft r w.heap.size<wr.rangeLeft r w.heap.size):=ab (by
     rintro W rfl
     have cp:=mq w8 g7 (D+k*3) [.int .i64 d,.string ⟨s.toArray⟩,.string ⟨B.toArray⟩]
     have cq:∀ j,j≤w.heap.size→j<w2.heap.size→(w8.setCells g7 (D+k*3) [.int .i64 d,.string ⟨s.toArray⟩,.string ⟨B.toArray⟩]).heap[j]?=w2.heap[j]?:=fun j hj bz=>by
      have s5:=bl.out.size
      have s6:=R.out.size
      have s7:=U.out.size
      rw [aw] at s7
      have s8:=a5.out.size
      rw [cp.block j (by have:Z.drew.heap.size=Z.heap.size:=rfl;omega) fun e=>by cases e;omega]
      exact co j hj bz
     have hR:=bc.out.frame (cq _ (by omega) bc.out.lt.1) (cq _ (af _) bc.out.lt.2)
     refine ⟨⟨l++[((d,s),B)],hR,?_,eT.out.setCells _ _,bD.grown cp bD.size fun j e=>by cases e;omega⟩,?_⟩
     ·rw [cB.out]
      exact H9 (x:=((d,s),B)) cl.out rfl bw rfl
     ·have e5:=hR.left
      have e6:=ea.out
      simp only [aG,aq,ar,aJ] at e5 e6
      omega)
    have e0:w8.cell? ⟨w2.heap.size+1+1,0,none⟩=some (.int .i64 d):=ae _ _ 0 _ _ _ O.out
    have go:w8.cell? ⟨w2.heap.size+1+1,1,none⟩=some (.string ⟨s.toArray⟩):=ae _ _ 1 _ _ _ O.out
    have e2:w8.cell? ⟨w2.heap.size+1+1,2,none⟩=some (.string ⟨B.toArray⟩):=ae _ _ 2 _ _ _ O.out
    obtain ⟨f0,f1,f2,z0,z1,z2⟩:=Hw cl.out rfl bw
    have f7:IntKind.i64.wrap (k:Int)=(k:Int):=IntWalk.i64_in _ (by omega)
    have a1:(k:Int)<(gV l).length+1:=by omega
    clear co bD O c7 av c6 c4
    go_wp2
    first
     | exact aE.out _ rfl
     | (go_roundw
        case rel=>exact (aE.out _ rfl).1
        case measure=>exact (aE.out _ rfl).2)
end Go.Proofs.YtkkfmkhbdoeglabGreatDoor
