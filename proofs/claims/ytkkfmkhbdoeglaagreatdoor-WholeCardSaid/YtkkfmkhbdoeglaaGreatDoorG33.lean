/- A part of what is proved here: lemmas and contracts of single functions. No condition but those that each names. -/
import Derived.Test.YtkkfmkhbdoeglaaGreatDoorG00
import Derived.Deep.CutBlock
import Derived.Deep.CutRange
import Derived.Laws.IdiomCopy
import Derived.Shelf.Spec.SlicesInsert
import Derived.StillTailTactics
import Derived.Test.YtkkfmkhbdoeglaaGreatDoorG09
import Derived.Test.YtkkfmkhbdoeglaaGreatDoorG10
import Derived.Test.YtkkfmkhbdoeglaaGreatDoorG26
set_option maxHeartbeats 4000000
set_option maxRecDepth 100000
namespace Go.Proofs.YtkkfmkhbdoeglaaGreatDoor
open Go.RowKit Go.Shelf
theorem El {P:Program} (w:World) (u y ty elem:TypeId) (k n:Nat) (b o d q:Nat) (a:Addr) (l r:Nat) (cs:List Value)
  (hu:P.underlying u=some (.slice elem)) (hs:(P.info? elem).map (·.size)=some k) (B:n=Nat.min l d) (hl:cs.length=n*k)
  (s:∀ j v,cs[j]?=some v→w.cell? (a.add j)=some v) (hc:∀ j,j<cs.length→(w.cell? ⟨b,o+j,none⟩).isSome=true) (C:∀ j,j<cs.length→w.frozen? ⟨b,o+j,none⟩=false) (h1:∀ v∈cs,v.oneCell'=true) :
  (Builtin.copy_ #[u,y] ty #[.slice (some ⟨b,o,none⟩) d q,.slice (some a) l r]).run P w = .ok (goInt n) (w.setCells b o cs):=by
 have m:=run_loadCells_list (P:=P) w a cs s
 have x:=run_storeCells_cells (P:=P) b o cs 0 w (by simpa using hc) (by simpa using C) h1
 rw [hl] at m
 cases hq:P.info? elem with
 | none=>simp [hq] at hs
 | some i =>
  have D:i.size=k:=by simpa [hq] using hs
  simp [Builtin.copy_,aN hu,Builtin.lenOf,Builtin.firstCells,sizeOf,typeInfo,hq,D,←B,m,x]
theorem OwnS.setCells {w:World} {base k n g go cap:Nat} {xs:List Value} (h:OwnS w base k (.slice (some ⟨g,go,none⟩) n cap) n xs) (p:Nat) (b:List Value) (y:p+b.length≤xs.length) :
  OwnS (w.setCells g (go+p) b) base k (.slice (some ⟨g,go,none⟩) n cap) n (xs.take p++b++xs.drop (p+b.length)):=by
 obtain ⟨hl,h | ⟨B,u,cap',e,s,q,r,hm,hc,o⟩⟩:=h
 ·cases h.1
 ·cases e
  have x:n*k≤cap*k:=cS _ r
  have d:∀ j,j<b.length→(w.cell? ⟨g,go+p+j,none⟩).isSome=true:=fun j C=>by
   rw [aW]
   exact (o (p+j) (by omega)).1
  refine ⟨by simp only [ar,aA,a8];omega,.inr ⟨g,go,cap,rfl,s,by rw [size_setCells];exact q,r,hm,fun i l => ?_,fun i l=>⟨?_,?_⟩⟩⟩
  ·have m:i<xs.length:=by simp only [ar,aA,a8] at l;omega
   have D:(xs.take p).length=p:=by rw [aA];omega
   by_cases h1:i<p
   ·rw [World.cell?_setCells_out g b (go+p) w ⟨g,go+i,none⟩ (fun _ _ => .inl (by show go+i<go+p;omega)),hc i m]
    congr 1
    rw [cX (by simp only [ar];omega),cX (by omega),List.getElem_take]
   ·by_cases h2:i<p+b.length
    ·have:=World.cell?_setCells_in g b (go+p) w d (i-p) (by omega)
     rw [show go+p+(i-p)=go+i by omega] at this
     rw [this]
     congr 1
     rw [cX (by simp only [ar];omega),dK (by omega)]
     congr 1
     omega
    ·rw [World.cell?_setCells_out g b (go+p) w ⟨g,go+i,none⟩ (fun _ _ => .inr (by show go+p+b.length≤go+i;omega)),hc i m]
     congr 1
     rw [dK (by simp only [ar];omega),List.getElem_drop]
     congr 1
     simp only [ar]
     omega
  ·by_cases h2:p≤i∧i<p+b.length
   ·have:=World.cell?_setCells_in g b (go+p) w d (i-p) (by omega)
    rw [show go+p+(i-p)=go+i by omega] at this
    rw [this]
    rfl
   ·rw [World.cell?_setCells_out g b (go+p) w ⟨g,go+i,none⟩ (fun _ _=>by show go+i<go+p∨go+p+b.length≤go+i;omega)]
    exact (o i l).1
  ·rw [World.frozen?_setCells]
   exact (o i l).2
theorem oF {b:Nat} {e:TypeId} : ∀ (d:List Value) (o:Nat) (w:World),(∃ C fz,w.heap[b]?=some (.cells C e fz))→∃ C fz,(w.setCells b o d).heap[b]?=some (.cells C e fz)
 | [],_,_,h=>h
 | v::d,o,w,h=>by
  rw [World.setCells]
  refine oF d _ _ ?_
  obtain ⟨C,fz,i⟩:=h
  refine ⟨C.setIfInBounds o v,fz,?_⟩
  unfold World.setCell
  simp
  obtain ⟨h1,h2⟩:=cx.1 i
  simp [eJ,i]
theorem CellsOf.setCells {w:World} {g go n cap:Nat} {e:TypeId} (h:CellsOf w (.slice (some ⟨g,go,none⟩) n cap) e) (p:Nat) (d:List Value):CellsOf (w.setCells g p d) (.slice (some ⟨g,go,none⟩) n cap) e:=fun b i=>by
 cases i
 exact oF d p w (h g rfl)
theorem G0 {S:List E} (_hS:SortedE S) (k:K) (v:List UInt8) (i:Nat) (b:∀ x∈S.take i,nJ x.1 k=true) (d:∀ x∈S.drop i,nJ k x.1=true):jJ k v S=S.take i++(k,v)::S.drop i:=by
 unfold jJ
 have l:S.filter (fun x=>nJ x.1 k)=S.take i:=by
  conv=>lhs;rw [←cy i S]
  rw [eo,ez.2 b,dZ.2 fun x j => ?_,cN]
  rw [kN (d x j)]
  decide
 have m:S.filter (fun x=>nJ k x.1)=S.drop i:=by
  conv=>lhs;rw [←cy i S]
  rw [eo,ez.2 d,dZ.2 fun x j => ?_,aQ]
  rw [kN (b x j)]
  decide
 rw [l,m]
theorem wpList_append_own {ops:Array Oper} {rest:List Oper} {o:Oper} {a:Act} {Q:Exit→Act→World→Prop} {w:World} (y:o.guard=none) (s x:Operand) (t e:TypeId) (k b:Nat) (z:Value)
  (B:Tryz.prog.underlying t=some (.slice e)) (j:(Tryz.prog.info? e).map (fun i=>(i.zero,i.size,i.bytes))=some (some z,k,b)) (C:z.cells.size=k) (hk:0<k)
  (F:o.op = .call {callee := .builtin .append,args:=#[s,x],argTypes:=#[t,t]})
  (base:Nat) (v:Value) (n:Nat) (xs:List Value) (G:a.eval s=v) (r:OwnS w base k v n xs) (I:CellsOf w v e) (m:Nat) (news:List Value) (hs:fR w (a.eval x) k m news) (h1:∀ u∈news,u.oneCell'=true)
  (hlen:n+m≤9223372036854775807) (d:(n+m)*b≤140737488355328) (l:base≤w.heap.size)
  (h:∀ v' w',OwnS w' base k v' (n+m) (xs++news)→w.grownBy w' v.ownBlock→CellsOf w' v' e→(∀ b,v'.ownBlock=some b→v.ownBlock=some b∨b=w.heap.size)→wpList Tryz.prog ops Q rest (a.put o.dst v') w'):wpList Tryz.prog ops Q (o::rest) a w:=by
 obtain ⟨i0,J,D,q,E⟩:=dP j
 exact fc y fun K hK=>lE s x _ _ F base k e i0 z B J D q (by rw [q];exact C) (by omega) v n xs G r I m news (fR.src B hs h1) hlen (by rw [E];exact d) l fun v' w' h1 h2 h3 h4=>hK _ _ (h v' w' h1 h2 h3 h4)
theorem GW {w:World} {base g go n cap k:Nat} {L:List E} {b d i:Value} (h:OwnS w base 3 (.slice (some ⟨g,go,none⟩) (n+1) cap) (n+1) ((entCells L).take (k*3)++[b,d,i]++(entCells L).drop (k*3))) (y:L.length=n) (hk:k≤n) :
  w.cell? ⟨g,go+k*3,none⟩=some b∧w.cell? ⟨g,go+k*3+1,none⟩=some d∧w.cell? ⟨g,go+k*3+2,none⟩=some i∧w.frozen? ⟨g,go+k*3,none⟩=false∧w.frozen? ⟨g,go+k*3+1,none⟩=false∧w.frozen? ⟨g,go+k*3+2,none⟩=false:=by
 have hl:=jX L
 have s:((entCells L).take (k*3)).length=k*3:=by rw [aA];omega
 obtain ⟨-,o | ⟨B,u,cap',e,-,-,l,-,hc,q⟩⟩:=h
 ·cases o.1
 cases e
 have r:(n+1)*3≤cap*3:=cS _ l
 have key:∀ j (m:j<[b,d,i].length),w.cell? ⟨g,go+k*3+j,none⟩=some [b,d,i][j]∧w.frozen? ⟨g,go+k*3+j,none⟩=false:=fun j m=>by
  have x:j<3:=m
  rw [aW]
  refine ⟨?_,(q (k*3+j) (by omega)).2⟩
  rw [hc (k*3+j) (by simp only [ar,a8,au,aJ];omega)]
  congr 1
  rw [cX (by simp only [ar,au,aJ];omega),dK (by omega)]
  congr 1
  omega
 exact ⟨(key 0 (by simp)).1,(key 1 (by simp)).1,(key 2 (by simp)).1,(key 0 (by simp)).2,(key 1 (by simp)).2,(key 2 (by simp)).2⟩
theorem DI (w:World):fR (w.alloc (.cells #[.int .i64 0,.string ⟨#[]⟩,.string ⟨#[]⟩] 123)) (.slice (some ⟨w.heap.size,0,none⟩) 1 1) 3 1 [.int .i64 0,.string ⟨#[]⟩,.string ⟨#[]⟩]:=by
 refine ⟨rfl,_,1,rfl,ah _,fun i b=>⟨_,0,rfl,?_⟩⟩
 rw [lS]
 obtain rfl | rfl | rfl:i=0∨i=1∨i=2:=by simp at b;omega
 ·rfl
 ·rfl
 ·rfl
theorem rn (gb go n cap i:Nat) (a:Int) (ha:a=(i:Int)) (b:i≤n) (hc:¬cap=i) (w:World) :
  (Instr.slice 43 (.slice (some ⟨gb,go,none⟩) n cap) (some (.int .i64 a)) none none).run Tryz.prog w = .ok (.slice (some ⟨gb,go+i*3,none⟩) (n-i) (cap-i)) w:=by
 subst ha
 have hu:Tryz.prog.underlying 43=some (.slice (Tryz.prog.elem 43)):=by kernel_rfl
 have hs:(sizeOf (Tryz.prog.elem 43)).run Tryz.prog w = .ok 3 w:=by kernel_rfl
 rw [run_slice_l (P:=Tryz.prog) (w:=w) 43 (some ⟨gb,go,none⟩) n cap hu .i64 (i:Int) (by omega) (by omega),hs]
 simp [Result.andThen,sliced,Addr.add,hc]
theorem sE (gb go n cap i:Nat) (a:Int) (ha:a=(i:Int)) (b:i≤n) (hc:cap=i) (w:World) :
  (Instr.slice 43 (.slice (some ⟨gb,go,none⟩) n cap) (some (.int .i64 a)) none none).run Tryz.prog w = .ok (.slice (some ⟨gb,go,none⟩) (n-i) (cap-i)) w:=by
 subst ha
 have hu:Tryz.prog.underlying 43=some (.slice (Tryz.prog.elem 43)):=by kernel_rfl
 have hs:(sizeOf (Tryz.prog.elem 43)).run Tryz.prog w = .ok 3 w:=by kernel_rfl
 rw [run_slice_l (P:=Tryz.prog) (w:=w) 43 (some ⟨gb,go,none⟩) n cap hu .i64 (i:Int) (by omega) (by omega),hs]
 simp [Result.andThen,sliced,hc]
theorem Er {w:World} {base g go n cap k m:Nat} {xs:List Value} {z:List Value} (h:OwnS w base 3 (.slice (some ⟨g,go,none⟩) (n+1) cap) (n+1) (xs++z)) (M:xs.length=n*3) (N:z.length=3) (hk:k≤n) (b:cap=k+1∨m=go+(k+1)*3) (h1:∀ u∈xs,u.oneCell'=true) (ty:TypeId) :
  ∃ w' q,(Builtin.copy_ #[43,43] ty #[.slice (some ⟨g,m,none⟩) (n-k) (cap-(k+1)),.slice (some ⟨g,go+k*3,none⟩) (n+1-k) (cap-k)]).run Tryz.prog w = .ok (goInt (n-k:Nat)) w'∧
   OwnS w' base 3 (.slice (some ⟨g,go,none⟩) (n+1) cap) (n+1) (xs.take (k*3)++q++xs.drop (k*3))∧q.length=3∧w.grownBy w' (some g)∧w'.heap.size=w.heap.size∧∀ e,CellsOf w (.slice (some ⟨g,go,none⟩) (n+1) cap) e→CellsOf w' (.slice (some ⟨g,go,none⟩) (n+1) cap) e:=by
 have B:=h
 obtain ⟨hl,C | ⟨O,G,cap',e,Q,I,r,hm,hc,s⟩⟩:=B
 ·cases C.1
 cases e
 have d:=OwnS.setCells h ((k+1)*3) (xs.drop (k*3)) (by rw [ar,a8];omega)
 have x:(xs.drop (k*3)).length=(n-k)*3:=by rw [a8];omega
 have l:=El (P:=Tryz.prog) w 43 43 ty 123 3 (n-k) g m (n-k) (cap-(k+1)) ⟨g,go+k*3,none⟩ (n+1-k) (cap-k) (xs.drop (k*3)) Tryz.underlying43 (by kernel_rfl) (by
   show n-k=min (n+1-k) (n-k)
   omega) x (fun j v o=>by
   rw [eW]
   obtain ⟨J,y⟩:=aG.1 o
   have:=hc (k*3+j) (by rw [ar];omega)
   rw [cX (by omega)] at this
   show w.cell? ⟨g,go+k*3+j,none⟩=some v
   rw [aW,this,←y,List.getElem_drop]) (fun j o=>by
   rcases b with b | b
   ·omega
   ·have:=(s ((k+1)*3+j) (by have:(k+1)*3+j<(n+1)*3:=by omega
                             have:(n+1)*3≤cap*3:=cS _ r
                             omega)).1
    rw [b,aW]
    exact this) (fun j o=>by
   rcases b with b | b
   ·omega
   ·have:=(s ((k+1)*3+j) (by have:(k+1)*3+j<(n+1)*3:=by omega
                             have:(n+1)*3≤cap*3:=cS _ r
                             omega)).2
    rw [b,aW]
    exact this) (fun v D=>h1 v (List.drop_subset _ _ D))
 have hw:w.setCells g m (xs.drop (k*3))=w.setCells g (go+(k+1)*3) (xs.drop (k*3)):=by
  rcases b with b | b
  ·have:xs.drop (k*3)=[]:=bK (by omega)
   rw [this]
   rfl
  ·rw [b]
 rw [hw] at l
 refine ⟨_,((xs++z).drop (k*3)).take 3,l,?_,by rw [aA,a8,ar];omega,l9 _ _ _ _,size_setCells _ _ _ _,fun e he=>he.setCells _ _⟩
 have E:(xs++z).drop ((k+1)*3+(xs.drop (k*3)).length)=[]:=fD (by rw [ar];omega)
 rw [E,cN] at d
 have F:(xs++z).take ((k+1)*3)=xs.take (k*3)++((xs++z).drop (k*3)).take 3:=by
  rw [show (k+1)*3=k*3+3 by omega,List.take_add]
  rw [eG (i:=k*3) (by omega)]
 rw [F] at d
 exact d
theorem qZ (L:List E) (k:Nat) (hk:k≤L.length):entCells (L.take k)=(entCells L).take (k*3)∧entCells (L.drop k)=(entCells L).drop (k*3):=by
 have e:entCells L=entCells (L.take k)++entCells (L.drop k):=by rw [←pC,cy]
 have hl:(entCells (L.take k)).length=k*3:=by rw [jX,aA,Nat.min_eq_left hk]
 rw [e]
 exact ⟨(List.take_left' hl).symm,(List.drop_left' hl).symm⟩
theorem G5 {w:World} {base g go n cap k:Nat} {L:List E} {x:E} {b:List Value} (h:OwnS w base 3 (.slice (some ⟨g,go,none⟩) (n+1) cap) (n+1) ((entCells L).take (k*3)++b++(entCells L).drop (k*3))) (o:L.length=n) (hk:k≤n) (q:b.length=3) :
  OwnS (w.setCells g (go+k*3) [.int .i64 x.1.1,.string ⟨x.1.2.toArray⟩,.string ⟨x.2.toArray⟩]) base 3 (.slice (some ⟨g,go,none⟩) (n+1) cap) (L.take k++x::L.drop k).length (entCells (L.take k++x::L.drop k)):=by
 have hl:=jX L
 have d:((entCells L).take (k*3)).length=k*3:=by rw [aA];omega
 have h2:=h.setCells (k*3) [.int .i64 x.1.1,.string ⟨x.1.2.toArray⟩,.string ⟨x.2.toArray⟩] (by simp only [ar,a8,au,aJ];omega)
 have e0:(L.take k++x::L.drop k).length=n+1:=by simp;omega
 have j:entCells (L.take k++x::L.drop k)=(entCells L).take (k*3)++[.int .i64 x.1.1,.string ⟨x.1.2.toArray⟩,.string ⟨x.2.toArray⟩]++(entCells L).drop (k*3):=by
  rw [pC,(qZ L k (by omega)).1,←(qZ L k (by omega)).2,bg]
  rfl
 have l:((entCells L).take (k*3)++b++(entCells L).drop (k*3)).take (k*3)=(entCells L).take (k*3):=by
  rw [bg]
  exact List.take_left' d
 have m:((entCells L).take (k*3)++b++(entCells L).drop (k*3)).drop (k*3+3)=(entCells L).drop (k*3):=List.drop_left' (by rw [ar];omega)
 rw [e0,j]
 rw [l] at h2
 have i:((entCells L).take (k*3)++b++(entCells L).drop (k*3)).drop (k*3+[Value.int .i64 x.1.1,.string ⟨x.1.2.toArray⟩,.string ⟨x.2.toArray⟩].length)=(entCells L).drop (k*3):=m
 rw [i] at h2
 exact h2
theorem sM (w:World) (a b:Nat):(w.drewN a).drewN b=w.drewN (a+b):=by
 unfold World.drewN
 simp [aW]
theorem yQ (l:List E):(gQ l).length≤l.length:=by
 have key:∀ (l:List E) (S:List E),SortedE S→(l.foldl (fun S x=>jJ x.1 x.2 S) S).length≤S.length+l.length:=by
  intro l
  induction l with
  | nil=>exact fun S h=>ah _
  | cons x l ih =>
    intro S h
    have h1:=ih _ (sorted_put x.1 x.2 h)
    have h2:=ud x.1 x.2 S h
    simp only [eI,au]
    omega
 have:=key l [] SortedE.nil
 simp only [aJ,bF] at this
 exact this
theorem GK:(Tryz.prog.info? 123).map (fun i=>(i.zero,i.size,i.bytes))=some (some (.agg #[.int .i64 0,.string ⟨#[]⟩,.string ⟨#[]⟩]),3,40):=by kernel_rfl
theorem DT (h:Nat) (x:HV) (S:List E) (w:World) (hh:HostIs w h x) (ht:TabAt w x.r S) (hS:S.length≤1000000) :
  Calls Tryz.prog 59 #[.pointer (some ⟨h,0,none⟩)] w fun e w'=>∃ v,e = .returned v∧ic w' v S∧Below w.heap.size w w':=by
 obtain ⟨r,hr⟩:∃ r,r=x.r:=⟨_,rfl⟩
 have ab:=fI hh
 unfold HostIs HV.cells at hh
 have c8:=af _ _ 10 _ _ _ hh
 simp only [bR,aY,bE] at c8
 rw [←hr] at c8 ht
 have fp:=ht.lt
 have da:=ae ht.1
 obtain ⟨bI,L,cq,hp⟩:=ht
 have HP:=ae hp
 have HN:=ae bI.nodup
 clear bI hp hh hr
 go_enter Tryz.func59,Tryz.ntmps59
 go_wp2_with (first | (refine jY rfl _ rfl Tryz.underlying85 rfl cq ?_;intro w1 cs dk fr) | fail)
 try go_frame
 go_loopw [3] (fun v wr=>∃ l:List E,gm wr r w.heap.size L (l.map zS)∧OwnS wr (w.heap.size+1) 3 v (gQ l).length (entCells (gQ l))∧CellsOf wr v 123∧Below w.heap.size w wr) (fun _ wr=>wr.rangeLeft r w.heap.size)
 case atStart=>exact ⟨[],cs,OwnS.nil _ _ _,CellsOf.nil _ _,dk⟩
 case round =>
  obtain ⟨l,Q,C,bL,aE⟩:=hrel
  go_wp2_with (first | (refine kD rfl _ rfl rfl Q ?_ ?_) | fail)
  ·intro dl
   have dn:=ae (qO (ky Q.sub.2.2) HN.out (dl.trans HP.out))
   obtain ⟨va,vc,rfl⟩:=C.shape
   go_wp2
   refine aK (v := .slice va (gQ l).length vc) (by simp [results]) rfl ⟨_,rfl,?_,aE⟩
   rw [xK da.out dn.out] at C⊢
   exact C.IH
  ·intro d s v w2 V bM a7 a9 bN dp fz
   obtain ⟨⟨k',B⟩,ds,e⟩:=aB.1 (HP.out.mem_iff.1 V)
   cases e
   have ba:gm w2 r w.heap.size L ((l++[((d,s),B)]).map zS):=by rw [bC];exact a7
   have bb:=ae ba
   unfold kP at dp
   obtain ⟨va,vc,rfl⟩:=C.shape
   have a0:Below w.heap.size w w2:=aE.grown a9 aE.size (fun j e=>by cases e;exact ah _)
   have X:OwnS w2 (w.heap.size+1) 3 (.slice va (gQ l).length vc) (gQ l).length (entCells (gQ l)):=C.grown a9 fun b hb e=>by
    cases e
    have:=C.fU _ hb
    omega
   have bi:=bL.kept a9 fun b hb e=>by
    cases e
    have:=C.fU _ hb
    omega
   have hlen:(gQ l).length≤1000000:=by
    have h1:=yQ l
    have h2:l.length≤S.length:=rE (ky Q.sub.2.2) (fun y hy=>sY (HP.out.mem_iff.1 (Q.sub.1 _ (aB.2 ⟨y,hy,rfl⟩))))
    omega
   have hle:=Q.left
   have dv:=ae bM
   have bk:=Q.sub.2.2
   rw [qH] at bk
   have dT:=ae bk
   have ag:Below w2.heap.size w2 (((w2.alloc (.cells #[.int .i64 d,.string ⟨s.toArray⟩] 94)).alloc (.cells #[.string ⟨B.toArray⟩] 195)).alloc (.cells #[.int .i64 d,.string ⟨s.toArray⟩,.string ⟨B.toArray⟩] 123)):=(((Below.refl _ w2).alloc (ah _) _).alloc (by simp) _).alloc (by simp;omega) _
   have Y:=fL ((w2.alloc (.cells #[.int .i64 d,.string ⟨s.toArray⟩] 94)).alloc (.cells #[.string ⟨B.toArray⟩] 195)) (.cells #[.int .i64 d,.string ⟨s.toArray⟩,.string ⟨B.toArray⟩] 123)
   rw [ax,ax] at Y
   have a1:=ae Y
   have bO:=ae (X.below ag)
   have bP:=ae X.gZ
   have d8:=ae (bi.frame fun b _ ab=>ag.block b ab)
   have bS:=ae (a0.trans (ag.mono a0.size))
   have bl:=ae ag
   have d9:=ae hle
   have fB:=ae bN
   clear a7 ba V ds Q C X bL bi a0 aE ag Y bN hle bM bk
   go_upto_block 2 with fail
   generalize ((w2.alloc (.cells #[.int .i64 d,.string ⟨s.toArray⟩] 94)).alloc (.cells #[.string ⟨B.toArray⟩] 195)).alloc (.cells #[.int .i64 d,.string ⟨s.toArray⟩,.string ⟨B.toArray⟩] 123)=w5 at *
   have e0:w5.cell? ⟨w2.heap.size+1+1,0,none⟩=some (.int .i64 d):=af _ _ 0 _ _ _ a1.out
   have gs:w5.cell? ⟨w2.heap.size+1+1,1,none⟩=some (.string ⟨s.toArray⟩):=af _ _ 1 _ _ _ a1.out
   have e2:w5.cell? ⟨w2.heap.size+1+1,2,none⟩=some (.string ⟨B.toArray⟩):=af _ _ 2 _ _ _ a1.out
   go_cut [7] from 13 to 79 (fun i wx=>∃ k:Nat,k≤(gQ l).length∧i = .int .i64 (k:Int)∧(∀ x∈(gQ l).drop k,nJ (d,s) x.1=true)∧(∀ x∈(gQ l).take k,nJ x.1 (d,s)=true)∧∃ q,wx=w5.drewN q)
   case first =>
    go_wp2_with fail
    go_loopw [7] (fun i wq=>∃ k:Nat,k≤(gQ l).length∧i = .int .i64 (k:Int)∧(∀ x∈(gQ l).drop k,nJ (d,s) x.1=true)∧∃ q,wq=w5.drewN q) (fun i _=>(intOf i).toNat)
    case atStart=>exact ⟨_,ah _,rfl,by simp,0,rfl⟩
    case round =>
     obtain ⟨k,hk,rfl,G,q,rfl⟩:=hrel
     by_cases f3:0<k
     ·obtain ⟨m,rfl⟩:∃ m,k=m+1:=⟨k-1,by omega⟩
      have d0:decide ((0:Int)<((m+1:Nat):Int))=true:=by simp
      have d1:(((m+1:Nat):Int))-1=(m:Int):=by omega
      have d6:IntKind.i64.wrap (m:Int)=(m:Int):=IntWalk.i64_in _ (by omega)
      have d7:(m:Int)<(gQ l).length:=by omega
      have ho:=bO.out.IH
      obtain ⟨ra,rc,re,-,bX⟩:=ho.opened
      cases re
      obtain ⟨g,off,rfl,c0,c1,c2⟩:=bX m (by omega)
      generalize a2:(gQ l)[m]=x0 at c0 c1 c2
      obtain ⟨⟨F,I⟩,xv⟩:=x0
      clear bX ho
      have b0:(gQ l).drop m=((F,I),xv)::(gQ l).drop (m+1):=by
       rw [cd (by omega),a2]
      have b1:(gQ l).take (m+1)=(gQ l).take m++[((F,I),xv)]:=by
       rw [aO (by omega),a2]
      have ak:SortedE ((gQ l).take (m+1)):=(pa l).take _
      have bn:nJ (F,I) (d,s)=true→∀ x∈(gQ l).take (m+1),nJ x.1 (d,s)=true:=fun h0 x V=>by
       rw [b1] at V ak
       rcases bU.1 V with V | V
       ·exact nl ((dB.1 ak).2.2 x V _ (az.2 rfl)) h0
       ·rw [az.1 V]
        exact h0
      have bo:=ae bn
      have b2:=ae b0
      have eg:Hid ((F,I)≠(d,s)):=ae fun e=>by
       have h1:((F,I),xv)∈gQ l:=by rw [←a2];exact cF _
       rw [xJ dT.out] at h1
       exact dv.out _ _ _ h1 e
      clear bn b1 ak b0 a2
      by_cases ht:d<F
      ·have d2:decide (d<F)=true:=bZ ht
       go_wp2
       go_quiet (fail)
       go_wp2
       refine ⟨⟨m,by omega,rfl,?_,_,rfl⟩,by simp [intOf]⟩
       rw [b2.out]
       exact List.forall_mem_cons.2 ⟨by rw [na];exact .inl ht,G⟩
      ·have d2:decide (d<F)=false:=bm ht
       by_cases br:d=F
       ·obtain rfl:=br
        by_cases hs:s<I
        ·have d4:Op.bytesLess I s=false:=by rw [bytesLess_eq];exact bm (List.not_lt.2 (List.le_of_lt hs))
         have d5:(I==s)=false:=aD.2 fun e=>eQ s (by rw [e] at hs;exact hs)
         have ej:=ae hs
         clear hs
         go_wp2
         go_quiet (fail)
         go_wp2
         refine ⟨⟨m,by omega,rfl,?_,_,rfl⟩,by simp [intOf]⟩
         rw [b2.out]
         exact List.forall_mem_cons.2 ⟨by rw [na];exact .inr ⟨rfl,ej.out⟩,G⟩
        ·have M:Hid (nJ (d,I) (d,s)=true):=ae (by
          rcases uJ (d,I) (d,s) with h | h | h
          ·exact h
          ·exact absurd h eg.out
          ·rw [na] at h
           rcases h with h | h
           ·exact absurd h (by show ¬d<d;omega)
           ·exact absurd h.2 hs)
         have d4:Op.bytesLess I s=true:=by
          rw [bytesLess_eq]
          refine bZ ?_
          have h:=M.out
          rw [na] at h
          rcases h with h | h
          ·exact absurd h (by show ¬d<d;omega)
          ·exact h.2
         clear hs
         go_wp2
         go_quiet (fail)
         go_wp2
         go_meet
         exact ⟨_,hk,rfl,G,bo.out M.out,_,by first | rfl | exact sM _ _ _⟩
       ·have el:¬F=d:=dx br
        have d3:decide (F=d)=false:=bm el
        have M:Hid (nJ (F,I) (d,s)=true):=ae (by rw [na];exact .inl (by show F<d;omega))
        clear br
        go_wp2
        go_quiet (fail)
        go_wp2
        go_meet
        exact ⟨_,hk,rfl,G,bo.out M.out,_,by first | rfl | exact sM _ _ _⟩
     ·obtain rfl:k=0:=by omega
      go_wp2
      go_quiet (fail)
      go_wp2
      go_meet
      exact ⟨0,hk,rfl,G,by simp,_,by first | rfl | exact sM _ _ _⟩
   case rest =>
    obtain ⟨k,hk,rfl,G,b3,q,rfl⟩:=hcut
    have bs:Hid (gQ (l++[((d,s),B)])=(gQ l).take k++((d,s),B)::(gQ l).drop k):=ae (by
     rw [vN]
     exact G0 (pa l) _ _ k b3 G)
    have cv:=bs
    have R:=ae ((Below.refl w5.heap.size w5).drewN q)
    have f4:(k:Int)≤(gQ l).length:=by omega
    have b4:=ae (bO.out.below R.out)
    have em:=ae (d8.out.frame (w':=w5.drewN q) fun b _ ab=>R.out.block b ab)
    have bt:=ae (bS.out.trans (R.out.mono bS.out.size))
    have b5:Hid ((w5.drewN q).heap[w2.heap.size+1+1]?=some (.cells #[.int .i64 d,.string ⟨s.toArray⟩,.string ⟨B.toArray⟩] 123 (0,0))):=ae a1.out
    clear G b3 bs e0 gs e2
    generalize w5.drewN q=w6 at *
    have b6:=fun o=>ae (Below.al (Below.rf w6) o)
    have cB:=ae (DI w6)
    have e7:=ae hlen
    go_wp2_with (first | (refine wpList_append_own rfl (.tmp 64) (.tmp 66) 43 123 3 40 _ Tryz.underlying43 GK rfl (by omega) rfl (w.heap.size+1) (.slice va (gQ l).length vc) (gQ l).length (entCells (gQ l)) rfl (by exact b4.out.below (b6 _).out) (by exact em.out.frame fun b _ hb=>(b6 _).out.block b hb) 1 [.int .i64 0,.string ⟨#[]⟩,.string ⟨#[]⟩] (by exact cB.out) (by intro u hu;simp at hu;rcases hu with rfl | rfl <;> rfl) (by omega) (by omega) (by have:=bt.out.size;rw [ax];omega) ?_;intro v7 Z N b7 am b8) | fail)
    obtain ⟨g7,D,J,rfl,f5⟩:∃ g7 D J,v7 = .slice (some ⟨g7,D,none⟩) ((gQ l).length+1) J∧(gQ l).length+1≤J:=by
     obtain ⟨-,h0 | ⟨g',er,cap',e,hg,ab,hn,-⟩⟩:=N
     ·omega
     ·exact ⟨g',er,cap',e,hn⟩
    have c3:=rn g7 D ((gQ l).length+1) J k (k:Int) rfl (by omega) (by omega)
    obtain ⟨o1,bv,c5⟩:∃ o1,(J=k+1∨o1=D+(k+1)*3)∧∀ w:World,(Instr.slice 43 (.slice (some ⟨g7,D,none⟩) ((gQ l).length+1) J) (some (.int .i64 ((k:Int)+1))) none none).run Tryz.prog w = .ok (.slice (some ⟨g7,o1,none⟩) ((gQ l).length-k) (J-(k+1))) w:=by
     by_cases hc:J=k+1
     ·exact ⟨D,.inl hc,fun w=>by rw [sE g7 D _ J (k+1) _ (by omega) (by omega) hc,Nat.add_sub_add_right]⟩
     ·exact ⟨D+(k+1)*3,.inr rfl,fun w=>by rw [rn g7 D _ J (k+1) _ (by omega) (by omega) hc,Nat.add_sub_add_right]⟩
    have bw:k≤(gQ l).length:=by omega
    obtain ⟨w8,ys,ca,a3,cb,ce,cf,bx⟩:=Er (w:=Z.drew) (n:=(gQ l).length) (xs:=entCells (gQ l)) (z:=[.int .i64 0,.string ⟨#[]⟩,.string ⟨#[]⟩]) N (jX _) rfl bw bv (yD _) 3
    have f6:IntKind.i64.wrap ((k:Int)+1)=(k:Int)+1:=IntWalk.i64_in _ (by omega)
    have eD:=ae N
    have U:=ae b7
    have f7:=ae am
    have eS:=ae b8
    have ci:=ae a3
    have a4:=ae ce
    have f8:=ae cf
    have eT:=ae (bx _ am)
    have f9:=ae bv
    have eV:=ae cb
    have e1:=ae ca
    clear N b7 am b8 a3 ce cf bx bv cb ca
    go_still_tail 7,(by kernel_rfl)
    change wpList _ _ _ _ _ Z.drew
    refine wpList_copy_runI Z.drew rfl (.tmp 71) (.tmp 74) 43 43 rfl _ _ rfl rfl e1.out ?_
    obtain ⟨y0,y1,y2,rfl⟩:∃ a b c,ys=[a,b,c]:=by
     have:=eV.out
     match ys,this with
     | [a,b,c],_=>exact ⟨a,b,c,rfl⟩
    have c6:w.heap.size+1≤g7:=eD.out.fU g7 rfl
    have ap:∀ j,(Value.slice va (gQ l).length vc).ownBlock=some j→w.heap.size+1≤j:=fun j e=>b4.out.fU j e
    have cl:∀ j,j≤w.heap.size→j<w2.heap.size→w8.heap[j]?=w2.heap[j]?:=fun j hj bz=>by
     have s5:=bl.out.size
     have s6:=R.out.size
     have t1:w8.heap[j]?=Z.heap[j]?:=a4.out.block j (by have:=U.out.size;rw [ax] at this;show j<Z.heap.size;omega) fun e=>by cases e;omega
     have t2:=U.out.block j (by rw [ax];omega) fun e=>by have:=ap j e.symm;omega
     rw [t1,t2,heap_alloc_old _ _ (by omega),R.out.block j (by omega),bl.out.block j bz]
    have O:Hid (w8.heap[w2.heap.size+1+1]?=some (.cells #[.int .i64 d,.string ⟨s.toArray⟩,.string ⟨B.toArray⟩] 123 (0,0))):=ae (by
     have s6:=fI b5.out
     have t1:=a4.out.block (w2.heap.size+1+1) (by have:=U.out.size;rw [ax] at this;show _<Z.heap.size;omega) fun e=>by
      cases e
      rcases eS.out (w2.heap.size+1+1) rfl with h | h
      ·have h':w2.heap.size+1+1<w2.heap.size:=bP.out _ h
       omega
      ·rw [ax] at h
       omega
     have t2:=U.out.block (w2.heap.size+1+1) (by rw [ax];omega) fun e=>by have:=bP.out _ e.symm;omega
     rw [t1]
     show Z.heap[_]?=_
     rw [t2]
     exact fQ _ _ b5.out)
    have bD:Below w.heap.size w w8:=by
     have h1:=(bt.out.alloc (o:=(.cells #[.int .i64 0,.string ⟨#[]⟩,.string ⟨#[]⟩] 123)) bt.out.size)
     have h2:=h1.grown U.out h1.size fun j e=>by have:=ap j e;omega
     exact (Below.drew h2).grown a4.out h2.size fun j e=>by cases e;omega
    have av:Hid (∀ W,W=w8.setCells g7 (D+k*3) [.int .i64 d,.string ⟨s.toArray⟩,.string ⟨B.toArray⟩]→(∃ l':List E,gm W r w.heap.size L (l'.map zS)∧OwnS W (w.heap.size+1) 3 (.slice (some ⟨g7,D,none⟩) ((gQ l).length+1) J) (gQ l').length (entCells (gQ l'))∧CellsOf W (.slice (some ⟨g7,D,none⟩) ((gQ l).length+1) J) 123∧Below w.heap.size w W)∧W.rangeLeft r w.heap.size<wr.rangeLeft r w.heap.size):=ae (by
     rintro W rfl
     have co:=l9 w8 g7 (D+k*3) [.int .i64 d,.string ⟨s.toArray⟩,.string ⟨B.toArray⟩]
     have cp:∀ j,j≤w.heap.size→j<w2.heap.size→(w8.setCells g7 (D+k*3) [.int .i64 d,.string ⟨s.toArray⟩,.string ⟨B.toArray⟩]).heap[j]?=w2.heap[j]?:=fun j hj bz=>by
      have s5:=bl.out.size
      have s6:=R.out.size
      have s7:=U.out.size
      rw [ax] at s7
      have s8:=a4.out.size
      rw [co.block j (by have:Z.drew.heap.size=Z.heap.size:=rfl;omega) fun e=>by cases e;omega]
      exact cl j hj bz
     have hR:=bb.out.frame (cp _ (by omega) bb.out.lt.1) (cp _ (ah _) bb.out.lt.2)
     refine ⟨⟨l++[((d,s),B)],hR,?_,eT.out.setCells _ _,bD.grown co bD.size fun j e=>by cases e;omega⟩,?_⟩
     ·rw [cv.out]
      exact G5 (x:=((d,s),B)) ci.out rfl bw rfl
     ·have e5:=hR.left
      have e6:=d9.out
      simp only [aH,ar,au,aJ] at e5 e6
      omega)
    have e0:w8.cell? ⟨w2.heap.size+1+1,0,none⟩=some (.int .i64 d):=af _ _ 0 _ _ _ O.out
    have gs:w8.cell? ⟨w2.heap.size+1+1,1,none⟩=some (.string ⟨s.toArray⟩):=af _ _ 1 _ _ _ O.out
    have e2:w8.cell? ⟨w2.heap.size+1+1,2,none⟩=some (.string ⟨B.toArray⟩):=af _ _ 2 _ _ _ O.out
    obtain ⟨f0,f1,f2,z0,z1,z2⟩:=GW ci.out rfl bw
    have ga:IntKind.i64.wrap (k:Int)=(k:Int):=IntWalk.i64_in _ (by omega)
    have a0:(k:Int)<(gQ l).length+1:=by omega
    clear cl bD O c6 ap c5 c3
    go_wp2
    first
     | exact av.out _ rfl
     | (go_roundw
        case rel=>exact (av.out _ rfl).1
        case measure=>exact (av.out _ rfl).2)
end Go.Proofs.YtkkfmkhbdoeglaaGreatDoor
